/- The law's own text of an instruction. -/
import Derived.Test.YtjjnidbggoaonaaGreatDoorAsLw
import Derived.Test.YtjjnidbggoaonaaGreatDoorAsDg
import Derived.Test.YtjjnidbggoaonaaGreatDoorAsT
import Derived.Deep.LoopGhost
namespace Go.Proofs.YtjjnidbggoaonaaGreatDoor
open Go.RowKit
attribute [local irreducible] World.setCell World.alloc World.drew Calls Code.wp
attribute [local go_sem] Oper.semAt_some

theorem idx_S (l : List UInt8) (i : Nat) (c : UInt8) (h : l[i]? = some c) (w : World) : (Instr.index 9 (S l) (.int .i64 (i : Int))).run Tryz.prog w = .ok (.int .u8 (c.toNat : Int)) w := by
  obtain ⟨hi, hc⟩ := List.getElem?_eq_some_iff.1 h
  rw [run_index_string _ _ _ _ _ Tryz.underlying9, dif_pos ⟨by omega, by rw [sz]; omega⟩]
  have : (⟨l.toArray⟩ : ByteArray)[((i : Nat) : Int).toNat]'(by rw [sz]; omega) = c := by
    show l.toArray[((i : Nat) : Int).toNat]'_ = c
    simp [hc]
  rw [this]
theorem load_insR (w : World) (rb : Nat) (x : Ins) (h : Blk w rb x.cells 23) : (loadVar 23 ⟨rb, 0, none⟩).run Tryz.prog w = .ok x.v w :=
  run_loadVar_row w rb 23 23 x.cells (0, 0) _ h Tryz.underlying23 rfl (by kernel_rfl)
/-- What text leaves, of an instruction as it is listed. -/
def TxPost (y : Ins) (w : World) (e : Ending) (w' : World) : Prop := e = .returned (.tuple #[S (insLine y), y.v]) ∧ Below w.heap.size w w'

theorem tx_end {y y0 : Ins} {w wx : World} {a : Act} {rb : Nat} {l : List UInt8} (h2 : a.tmps.getD 2 undef = S l) (h3 : a.tmps.getD 3 undef = .pointer (some ⟨rb, 0, none⟩)) (hR : Blk wx rb y.cells 23)
    (hy : y0 = y) (hl : l = insLine y) (hb : Below w.heap.size w wx) (hd : a.defers = []) : bodyPost Tryz.prog Tryz.f14 (TxPost y0 w) Exit.ret a wx := by
  refine bodyPost_ret (results_tc (t := 2) (p := 3) (ty := 23) Tryz.results14 _ _ ⟨rb, 0, none⟩ _ h3 (load_insR _ _ y hR)) hd ⟨?_, hb⟩
  rw [hy, ← hl, h2]

set_option maxRecDepth 100000 in
set_option maxHeartbeats 16000000 in
theorem text24_any (n : Nat) (a b c imm : Int) (h0 : 1 ≤ n) (h1 : n ≤ 43) (i0 : -2147483648 ≤ imm) (i1 : imm ≤ 2147483647) (w : World) (h : HasAs w) :
    Calls Tryz.prog 14 #[.agg #[.int .i64 n, .int .i64 a, .int .i64 b, .int .i64 c, .int .i32 imm]] w (TxPost (plainA ⟨n, a % 16, b % 16, c % 16, imm⟩) w) := by
  have H := Lib.hid h; clear h
  have Htx := fun w hp hs => text_any ⟨n, 0, 0, 0, 0⟩ (by simp) w hp hs
  have hop := opT_text (n - 1) (by omega)
  rw [show ((n - 1 : Nat) : Int) + 1 = n by omega] at hop
  rw [hop] at Htx
  simp only at Htx
  have hnm := nm_plain (n - 1) (by omega)
  have lN := nm_len (n - 1)
  have hopT : opT (n - 1) = nm (n - 1) ++ 32 :: [114, 48, 32, 114, 48, 32, 114, 48, 32, 48] := by unfold opT; simp
  have hbt : ∀ i c, i < (nm (n - 1)).length → (opT (n - 1))[i]? = some c → c ≠ 32 := fun i c hi hc => by
    rw [hopT, List.getElem?_append_left hi] at hc
    intro e; subst e
    exact hnm.1.nmem (c := 32) (by decide) (List.mem_of_getElem? hc)
  have hb32 : (opT (n - 1))[(nm (n - 1)).length]? = some 32 := by
    rw [hopT, List.getElem?_append_right (Nat.le_refl _)]; simp
  have htk : (⟨(opT (n - 1)).toArray⟩ : ByteArray).extract 0 (nm (n - 1)).length = ⟨(nm (n - 1)).toArray⟩ := by
    rw [ext_take, hopT]; simp
  have lT : (opT (n - 1)).length = (nm (n - 1)).length + 11 := by rw [hopT]; simp
  have hline : ∀ y : Ins, y.op = n → insLine y = (let f := formA n
  if f = 0 then nm (n - 1) else if f = 1 ∨ f = 7 then nm (n - 1) ++ [32] ++ rT y.a ++ [44, 32] ++ Lib.itoa y.imm
  else if f = 2 ∨ f = 6 then nm (n - 1) ++ [32] ++ rT y.a ++ [44, 32] ++ rT y.b ++ [44, 32] ++ Lib.itoa y.imm
  else if f = 3 then nm (n - 1) ++ [32] ++ rT y.a ++ [44, 32] ++ rT y.b ++ [44, 32] ++ rT y.c
  else if f = 4 then nm (n - 1) ++ [32] ++ rT y.a ++ [44, 32] ++ rT y.b
  else if f = 5 then nm (n - 1) ++ [32] ++ rT y.a ++ [44, 32] ++ Lib.itoa y.imm ++ [40] ++ rT y.b ++ [41]
  else nm (n - 1) ++ [32] ++ rT y.a) := fun y hy => by simp [insLine, hy]
  have ha := and15 a
  have hb := and15 b
  have hc := and15 c
  have Ra := Lib.hid (fun w => lreg_any a w)
  have Rb := Lib.hid (fun w => lreg_any b w)
  have Rc := Lib.hid (fun w => lreg_any c w)
  have Rk := Lib.hid (fun w => ldig_any imm (by omega) (by omega) w)
  have lK := Lib.itoa_length_le imm (by omega) (by omega)
  have lA := rT_len (a % 16) (by omega) (by omega)
  have lB := rT_len (b % 16) (by omega) (by omega)
  have lC := rT_len (c % 16) (by omega) (by omega)
  have ci : IntKind.i64.wrap imm = imm := IntWalk.i64_in _ (by omega)
  generalize nm (n - 1) = N at *
  generalize opT (n - 1) = tx at *
  have Htx := Lib.hid Htx; have Hbt := Lib.hid hbt; have Hb32 := Lib.hid hb32; have Hline := Lib.hid hline
  clear hop hnm hopT hbt hb32 hline
  obtain ⟨xb, hxb⟩ : ∃ xb, xb = w.heap.size := ⟨_, rfl⟩
  obtain ⟨w0, hw0⟩ : ∃ w0 : World, w0 = (w.alloc (.cells #[.int .i64 n, .int .i64 a, .int .i64 b, .int .i64 c, .int .i32 imm] 23)).alloc (.cells #[.int .i64 0, .int .i64 0, .int .i64 0, .int .i64 0, .int .i32 0] 23) := ⟨_, rfl⟩
  have HX0 : Hid (Blk w0 xb #[.int .i64 n, .int .i64 a, .int .i64 b, .int .i64 c, .int .i32 imm] 23) := by rw [hw0, hxb]; exact (Blk.new _ _ _).alloc _
  have HR0 : Hid (Blk w0 (xb + 1) #[.int .i64 0, .int .i64 0, .int .i64 0, .int .i64 0, .int .i32 0] 23) := by
    rw [hw0, hxb]
    have := Blk.new (w.alloc (.cells #[.int .i64 n, .int .i64 a, .int .i64 b, .int .i64 c, .int .i32 imm] 23)) #[.int .i64 0, .int .i64 0, .int .i64 0, .int .i64 0, .int .i32 0] 23
    rw [World.size_alloc] at this
    exact this
  have HB0 : Hid (Below w.heap.size w w0) := by rw [hw0]; exact (((Below.refl _ w).alloc (Nat.le_refl _) _).alloc (by rw [World.size_alloc]; omega) _)
  have Hxb : Hid (xb = w.heap.size) := hxb
  have hx0 := HX0.out.cell
  rw [hw0, hxb] at hx0
  go_enter Tryz.func14, Tryz.ntmps14
  go_wp2_with fail
  rw [← hw0, ← hxb]
  clear hx0
  refine (Htx.out _ (H.out.below HB0.out).pow (H.out.below HB0.out).sp).mono ?_
  rintro e w1 ⟨rfl, hb1⟩
  have HX1 := Lib.hid (HX0.out.below hb1 HX0.out.lt)
  have HR1 := Lib.hid (HR0.out.below hb1 HR0.out.lt)
  have HB1 := Lib.hid (bel_from HB0.out hb1)
  clear hb1 hw0 hxb
  go_wp2_with fail
  go_loopg [4, 5, 17] (N.length + 1) (fun g v4 _ vi wx => ∃ i : Nat, i + g = N.length + 1 ∧ i ≤ N.length ∧ v4 = S tx ∧ vi = .int .i64 i ∧ wx = w1)
  case atStart => exact ⟨0, by omega, by omega, rfl, rfl, rfl⟩
  case round =>
    obtain ⟨i, hi, hiN, rfl, rfl, rfl⟩ := hrel
    have hit : (i : Int) < tx.length := by omega
    obtain ⟨ch, hch⟩ : ∃ ch, tx[i]? = some ch := ⟨_, List.getElem?_eq_getElem (by omega)⟩
    have hix := idx_S tx i ch hch
    by_cases hiN2 : i < N.length
    · have hne := Hbt.out i ch hiN2 hch
      have hneb : ((ch.toNat : Int) == 32) = false := by
        simp only [beq_eq_false_iff_ne, ne_eq]
        intro e
        exact hne (UInt8.toNat_inj.1 (by rw [show ch.toNat = 32 by omega]; rfl))
      clear hne hch
      go_wp2_with fail
      go_roundg (N.length - i)
      case measure => omega
      case rel => exact ⟨i + 1, by omega, by omega, rfl, by go_num, rfl⟩
    · obtain rfl : i = N.length := by omega
      have e32 : ch = 32 := by rw [Hb32.out] at hch; exact (Option.some.inj hch).symm
      subst e32
      have htl : (N.length : Int) ≤ (⟨tx.toArray⟩ : ByteArray).size := by rw [sz]; omega
      have hx1 := HX1.out.cell
      obtain ⟨yb, hyb⟩ : ∃ yb, yb = wr.heap.size := ⟨_, rfl⟩
      obtain ⟨w2, hw2⟩ : ∃ w2 : World, w2 = wr.alloc (.cells #[.int .i64 n, .int .i64 (a % 16), .int .i64 0, .int .i64 0, .int .i32 0] 23) := ⟨_, rfl⟩
      have HY2 : Hid (Blk w2 yb #[.int .i64 n, .int .i64 (a % 16), .int .i64 0, .int .i64 0, .int .i32 0] 23) := by rw [hw2, hyb]; exact Blk.new _ _ _
      have HX2 : Hid (Blk w2 xb #[.int .i64 n, .int .i64 a, .int .i64 b, .int .i64 c, .int .i32 imm] 23) := by rw [hw2]; exact HX1.out.alloc _
      have HR2 : Hid (Blk w2 (xb + 1) #[.int .i64 0, .int .i64 0, .int .i64 0, .int .i64 0, .int .i32 0] 23) := by rw [hw2]; exact HR1.out.alloc _
      have HB2 : Hid (Below w.heap.size w w2) := by rw [hw2]; exact HB1.out.alloc HB1.out.size _
      have Hyx : Hid (xb + 1 < yb) := by have := HR1.out.lt; show _ < _; omega
      clear hch hiN2
      go_wp2_with fail
      rw [← hw2, ← hyb]
      clear hw2 hyb hx1 hix htk
      have HSS : Hid (∀ w', Below w2.heap.size w2 w' → (w'.cell? ⟨xb, 0, none⟩ = some (.int .i64 n) ∧ w'.cell? ⟨xb, 1, none⟩ = some (.int .i64 a) ∧ w'.cell? ⟨xb, 2, none⟩ = some (.int .i64 b) ∧ w'.cell? ⟨xb, 3, none⟩ = some (.int .i64 c) ∧ w'.cell? ⟨xb, 4, none⟩ = some (.int .i32 imm))) := fun w' hb => by
        have h1 := HX2.out.below hb HX2.out.lt
        exact ⟨h1.cell 0, h1.cell 1, h1.cell 2, h1.cell 3, h1.cell 4⟩
      have Hdr : Hid (Below w2.heap.size w2 w2.drew) := (Below.refl _ w2).drew
      go_region_held3 (fun w' => (w'.cell? ⟨xb, 0, none⟩ = some (.int .i64 n) ∧ w'.cell? ⟨xb, 1, none⟩ = some (.int .i64 a) ∧ w'.cell? ⟨xb, 2, none⟩ = some (.int .i64 b) ∧ w'.cell? ⟨xb, 3, none⟩ = some (.int .i64 c) ∧ w'.cell? ⟨xb, 4, none⟩ = some (.int .i32 imm)))
        (first
          | exact HSS.out _ Hdr.out
          | exact HSS.out _ (bel_from Hdr.out hb3)
          | exact HSS.out _ (bel_from (bel_from Hdr.out hb3) hb4)
          | exact HSS.out _ (bel_from (bel_from (bel_from Hdr.out hb3) hb4) hb5)
          | exact HSS.out _ (bel_from (bel_from (bel_from (bel_from Hdr.out hb3) hb4) hb5) hb6))
        (first
          | (refine (Ra.out _).mono ?_; rintro e w3 ⟨rfl, hb3⟩)
          | (refine (Rb.out _).mono ?_; rintro e w4 ⟨rfl, hb4⟩)
          | (refine (Rc.out _).mono ?_; rintro e w5 ⟨rfl, hb5⟩)
          | (refine (Rk.out _).mono ?_; rintro e w6 ⟨rfl, hb6⟩))
      have hbl : Hid (Below w2.heap.size w2 w6) := bel_from (bel_from (bel_from (bel_from Hdr.out hb3) hb4) hb5) hb6
      have HX6 := Lib.hid (HX2.out.below hbl.out HX2.out.lt)
      have HR6 := Lib.hid (HR2.out.below hbl.out HR2.out.lt)
      have HY6 := Lib.hid (HY2.out.below hbl.out HY2.out.lt)
      have HB6 := Lib.hid (bel_from HB2.out hbl.out)
      clear hb3 hb4 hb5 hb6 hbl HSS Hdr HX2 HR2 HY2 HB2 HX1 HR1 HB1 HX0 HR0 HB0 Htx Hbt Hb32 hit htl hi hiN lT
      have hx6 := HX6.out.cell
      have hy6 := HY6.out.cell
      have hn1 : yb ≠ xb := by have := Hyx.out; omega
      have hn2 : xb ≠ yb := by have := Hyx.out; omega
      have hn3 : yb ≠ xb + 1 := by have := Hyx.out; omega
      have hn4 : xb + 1 ≠ yb := by have := Hyx.out; omega
      have hcs : (n = 1) ∨ (n = 43) ∨ (n = 30) ∨ (n = 2) ∨ (n = 3) ∨ (n = 29) ∨ (39 ≤ n ∧ n ≤ 42) ∨ (19 ≤ n ∧ n ≤ 24) ∨ (n = 18) ∨ (25 ≤ n ∧ n ≤ 28) ∨ (4 ≤ n ∧ n ≤ 17) ∨ (31 ≤ n ∧ n ≤ 38) := by omega
      rcases hcs with rfl | rfl | rfl | rfl | rfl | rfl | ⟨m1, m2⟩ | ⟨m1, m2⟩ | rfl | ⟨m1, m2⟩ | ⟨m1, m2⟩ | ⟨m1, m2⟩
      · have hfm : formA 1 = 0 := by decide
        go_wp2_with fail
        have hxe := (((((HX6.out.set_other (a := ⟨xb + 1, 0, none⟩) (by show xb + 1 ≠ xb; omega) (.int .i64 1)).set_other (a := ⟨xb + 1, 1, none⟩) (by show xb + 1 ≠ xb; omega) (.int .i64 0)).set_other (a := ⟨xb + 1, 2, none⟩) (by show xb + 1 ≠ xb; omega) (.int .i64 0)).set_other (a := ⟨xb + 1, 3, none⟩) (by show xb + 1 ≠ xb; omega) (.int .i64 0)).set_other (a := ⟨xb + 1, 4, none⟩) (by show xb + 1 ≠ xb; omega) (.int .i32 0)).drew.cell
        have HXE := Lib.hid hxe
        clear hxe
        have hx6d := HX6.out.drew.cell
        have hrc := HR6.out.cell
        have hrf := HR6.out.free
        go_region_held3 (fun w' => w'.cell? ⟨xb, 0, none⟩ = some (.int .i64 1)) (first | exact hx6d 0 | exact HXE.out 0) (fail)
        go_wp2_with fail
        have hln : insLine ⟨(1 : Nat), 0, 0, 0, 0⟩ = N := (Hline.out ⟨(1 : Nat), 0, 0, 0, 0⟩ rfl).trans (by rw [hfm]; rfl)
        exact tx_end (y := ⟨(1 : Nat), 0, 0, 0, 0⟩) rfl rfl (((((((HR6.out.set 0 (.int .i64 1)).set 1 (.int .i64 0)).set 2 (.int .i64 0)).set 3 (.int .i64 0)).set 4 (.int .i32 0)).cells rfl).drew) (by simp [plainA, hfm]) (by rw [hln]) ((((((HB6.out.setCell (p := ⟨xb + 1, 0, none⟩) (by rw [← Hxb.out]; show xb ≤ xb + 1; omega) (.int .i64 1)).setCell (p := ⟨xb + 1, 1, none⟩) (by rw [← Hxb.out]; show xb ≤ xb + 1; omega) (.int .i64 0)).setCell (p := ⟨xb + 1, 2, none⟩) (by rw [← Hxb.out]; show xb ≤ xb + 1; omega) (.int .i64 0)).setCell (p := ⟨xb + 1, 3, none⟩) (by rw [← Hxb.out]; show xb ≤ xb + 1; omega) (.int .i64 0)).setCell (p := ⟨xb + 1, 4, none⟩) (by rw [← Hxb.out]; show xb ≤ xb + 1; omega) (.int .i32 0)).drew) rfl
      · have hfm : formA 43 = 0 := by decide
        go_wp2_with fail
        have hxe := (((((HX6.out.set_other (a := ⟨xb + 1, 0, none⟩) (by show xb + 1 ≠ xb; omega) (.int .i64 43)).set_other (a := ⟨xb + 1, 1, none⟩) (by show xb + 1 ≠ xb; omega) (.int .i64 0)).set_other (a := ⟨xb + 1, 2, none⟩) (by show xb + 1 ≠ xb; omega) (.int .i64 0)).set_other (a := ⟨xb + 1, 3, none⟩) (by show xb + 1 ≠ xb; omega) (.int .i64 0)).set_other (a := ⟨xb + 1, 4, none⟩) (by show xb + 1 ≠ xb; omega) (.int .i32 0)).drew.cell
        have HXE := Lib.hid hxe
        clear hxe
        have hx6d := HX6.out.drew.cell
        have hrc := HR6.out.cell
        have hrf := HR6.out.free
        go_region_held3 (fun w' => w'.cell? ⟨xb, 0, none⟩ = some (.int .i64 43)) (first | exact hx6d 0 | exact HXE.out 0) (fail)
        go_wp2_with fail
        have hln : insLine ⟨(43 : Nat), 0, 0, 0, 0⟩ = N := (Hline.out ⟨(43 : Nat), 0, 0, 0, 0⟩ rfl).trans (by rw [hfm]; rfl)
        exact tx_end (y := ⟨(43 : Nat), 0, 0, 0, 0⟩) rfl rfl (((((((HR6.out.set 0 (.int .i64 43)).set 1 (.int .i64 0)).set 2 (.int .i64 0)).set 3 (.int .i64 0)).set 4 (.int .i32 0)).cells rfl).drew) (by simp [plainA, hfm]) (by rw [hln]) ((((((HB6.out.setCell (p := ⟨xb + 1, 0, none⟩) (by rw [← Hxb.out]; show xb ≤ xb + 1; omega) (.int .i64 43)).setCell (p := ⟨xb + 1, 1, none⟩) (by rw [← Hxb.out]; show xb ≤ xb + 1; omega) (.int .i64 0)).setCell (p := ⟨xb + 1, 2, none⟩) (by rw [← Hxb.out]; show xb ≤ xb + 1; omega) (.int .i64 0)).setCell (p := ⟨xb + 1, 3, none⟩) (by rw [← Hxb.out]; show xb ≤ xb + 1; omega) (.int .i64 0)).setCell (p := ⟨xb + 1, 4, none⟩) (by rw [← Hxb.out]; show xb ≤ xb + 1; omega) (.int .i32 0)).drew) rfl
      · have hfm : formA 30 = 8 := by decide
        obtain ⟨P1, hP1, lP1, s1⟩ := sumF (P := Tryz.prog) N [32] (by (try simp only [List.length_cons, List.length_nil]); omega)
        simp only [List.length_cons, List.length_nil] at lP1
        obtain ⟨P2, hP2, lP2, s2⟩ := sumF (P := Tryz.prog) P1 (rT (a % 16)) (by (try simp only [List.length_cons, List.length_nil]); omega)
        have hye := (((((HY6.out.set_other (a := ⟨xb + 1, 0, none⟩) (by have := Hyx.out; show xb + 1 ≠ yb; omega) (.int .i64 30)).set_other (a := ⟨xb + 1, 1, none⟩) (by have := Hyx.out; show xb + 1 ≠ yb; omega) (.int .i64 (a % 16))).set_other (a := ⟨xb + 1, 2, none⟩) (by have := Hyx.out; show xb + 1 ≠ yb; omega) (.int .i64 0)).set_other (a := ⟨xb + 1, 3, none⟩) (by have := Hyx.out; show xb + 1 ≠ yb; omega) (.int .i64 0)).set_other (a := ⟨xb + 1, 4, none⟩) (by have := Hyx.out; show xb + 1 ≠ yb; omega) (.int .i32 0)).drew.cell
        have HYE := Lib.hid hye
        clear hye
        have hyd := HY6.out.drew.cell
        have hrc := HR6.out.cell
        have hrf := HR6.out.free
        go_wp2_with fail
        go_region_held3 (fun w' => w'.cell? ⟨yb, 0, none⟩ = some (.int .i64 30) ∧ w'.cell? ⟨yb, 1, none⟩ = some (.int .i64 (a % 16)) ∧ w'.cell? ⟨yb, 2, none⟩ = some (.int .i64 0) ∧ w'.cell? ⟨yb, 3, none⟩ = some (.int .i64 0) ∧ w'.cell? ⟨yb, 4, none⟩ = some (.int .i32 0)) (first | exact ⟨hyd 0, hyd 1, hyd 2, hyd 3, hyd 4⟩ | exact ⟨HYE.out 0, HYE.out 1, HYE.out 2, HYE.out 3, HYE.out 4⟩) (fail)
        go_wp2_with fail
        have hln : insLine ⟨(30 : Nat), a % 16, 0, 0, 0⟩ = N ++ [32] ++ (rT (a % 16)) := (Hline.out ⟨(30 : Nat), a % 16, 0, 0, 0⟩ rfl).trans (by rw [hfm]; rfl)
        exact tx_end (y := ⟨(30 : Nat), a % 16, 0, 0, 0⟩) rfl rfl (((((((HR6.out.set 0 (.int .i64 30)).set 1 (.int .i64 (a % 16))).set 2 (.int .i64 0)).set 3 (.int .i64 0)).set 4 (.int .i32 0)).cells rfl).drew) (by simp [plainA, hfm]) (by rw [hln]; rw [hP2.out, hP1.out]) ((((((HB6.out.setCell (p := ⟨xb + 1, 0, none⟩) (by rw [← Hxb.out]; show xb ≤ xb + 1; omega) (.int .i64 30)).setCell (p := ⟨xb + 1, 1, none⟩) (by rw [← Hxb.out]; show xb ≤ xb + 1; omega) (.int .i64 (a % 16))).setCell (p := ⟨xb + 1, 2, none⟩) (by rw [← Hxb.out]; show xb ≤ xb + 1; omega) (.int .i64 0)).setCell (p := ⟨xb + 1, 3, none⟩) (by rw [← Hxb.out]; show xb ≤ xb + 1; omega) (.int .i64 0)).setCell (p := ⟨xb + 1, 4, none⟩) (by rw [← Hxb.out]; show xb ≤ xb + 1; omega) (.int .i32 0)).drew) rfl
      · have hfm : formA 2 = 1 := by decide
        obtain ⟨P1, hP1, lP1, s1⟩ := sumF (P := Tryz.prog) N [32] (by (try simp only [List.length_cons, List.length_nil]); omega)
        simp only [List.length_cons, List.length_nil] at lP1
        obtain ⟨P2, hP2, lP2, s2⟩ := sumF (P := Tryz.prog) P1 (rT (a % 16)) (by (try simp only [List.length_cons, List.length_nil]); omega)
        obtain ⟨P3, hP3, lP3, s3⟩ := sumF (P := Tryz.prog) P2 [44, 32] (by (try simp only [List.length_cons, List.length_nil]); omega)
        simp only [List.length_cons, List.length_nil] at lP3
        obtain ⟨P4, hP4, lP4, s4⟩ := sumF (P := Tryz.prog) P3 (Lib.itoa imm) (by (try simp only [List.length_cons, List.length_nil]); omega)
        have HY70 : Hid (Blk (w6.setCell ⟨yb, 4, none⟩ (.int .i32 imm)) yb #[.int .i64 2, .int .i64 (a % 16), .int .i64 0, .int .i64 0, .int .i32 imm] 23) := (HY6.out.set 4 (.int .i32 imm)).cells rfl
        have HR70 : Hid (Blk (w6.setCell ⟨yb, 4, none⟩ (.int .i32 imm)) (xb + 1) #[.int .i64 0, .int .i64 0, .int .i64 0, .int .i64 0, .int .i32 0] 23) := HR6.out.set_other (a := ⟨yb, 4, none⟩) (by have := Hyx.out; show yb ≠ xb + 1; omega) _
        have HX70 : Hid (Blk (w6.setCell ⟨yb, 4, none⟩ (.int .i32 imm)) xb #[.int .i64 2, .int .i64 a, .int .i64 b, .int .i64 c, .int .i32 imm] 23) := HX6.out.set_other (a := ⟨yb, 4, none⟩) (by have := Hyx.out; show yb ≠ xb; omega) _
        have HB70 : Hid (Below w.heap.size w (w6.setCell ⟨yb, 4, none⟩ (.int .i32 imm))) := HB6.out.setCell (p := ⟨yb, 4, none⟩) (by have := Hyx.out; rw [← Hxb.out]; show xb ≤ yb; omega) _
        have hx70 := HX70.out.cell
        have hf70 := (HY6.out).free 4
        have hye := (((((HY70.out.set_other (a := ⟨xb + 1, 0, none⟩) (by have := Hyx.out; show xb + 1 ≠ yb; omega) (.int .i64 2)).set_other (a := ⟨xb + 1, 1, none⟩) (by have := Hyx.out; show xb + 1 ≠ yb; omega) (.int .i64 (a % 16))).set_other (a := ⟨xb + 1, 2, none⟩) (by have := Hyx.out; show xb + 1 ≠ yb; omega) (.int .i64 0)).set_other (a := ⟨xb + 1, 3, none⟩) (by have := Hyx.out; show xb + 1 ≠ yb; omega) (.int .i64 0)).set_other (a := ⟨xb + 1, 4, none⟩) (by have := Hyx.out; show xb + 1 ≠ yb; omega) (.int .i32 imm)).drew.cell
        have HYE := Lib.hid hye
        clear hye
        have hyd := HY70.out.drew.cell
        have hrc := HR70.out.cell
        have hrf := HR70.out.free
        go_wp2_with fail
        go_region_held3 (fun w' => w'.cell? ⟨yb, 0, none⟩ = some (.int .i64 2) ∧ w'.cell? ⟨yb, 1, none⟩ = some (.int .i64 (a % 16)) ∧ w'.cell? ⟨yb, 2, none⟩ = some (.int .i64 0) ∧ w'.cell? ⟨yb, 3, none⟩ = some (.int .i64 0) ∧ w'.cell? ⟨yb, 4, none⟩ = some (.int .i32 imm)) (first | exact ⟨hyd 0, hyd 1, hyd 2, hyd 3, hyd 4⟩ | exact ⟨HYE.out 0, HYE.out 1, HYE.out 2, HYE.out 3, HYE.out 4⟩) (fail)
        go_wp2_with fail
        have hln : insLine ⟨(2 : Nat), a % 16, 0, 0, imm⟩ = N ++ [32] ++ (rT (a % 16)) ++ [44, 32] ++ (Lib.itoa imm) := (Hline.out ⟨(2 : Nat), a % 16, 0, 0, imm⟩ rfl).trans (by rw [hfm]; rfl)
        exact tx_end (y := ⟨(2 : Nat), a % 16, 0, 0, imm⟩) rfl rfl (((((((HR70.out.set 0 (.int .i64 2)).set 1 (.int .i64 (a % 16))).set 2 (.int .i64 0)).set 3 (.int .i64 0)).set 4 (.int .i32 imm)).cells rfl).drew) (by simp [plainA, hfm]) (by rw [hln]; rw [hP4.out, hP3.out, hP2.out, hP1.out]) ((((((HB70.out.setCell (p := ⟨xb + 1, 0, none⟩) (by rw [← Hxb.out]; show xb ≤ xb + 1; omega) (.int .i64 2)).setCell (p := ⟨xb + 1, 1, none⟩) (by rw [← Hxb.out]; show xb ≤ xb + 1; omega) (.int .i64 (a % 16))).setCell (p := ⟨xb + 1, 2, none⟩) (by rw [← Hxb.out]; show xb ≤ xb + 1; omega) (.int .i64 0)).setCell (p := ⟨xb + 1, 3, none⟩) (by rw [← Hxb.out]; show xb ≤ xb + 1; omega) (.int .i64 0)).setCell (p := ⟨xb + 1, 4, none⟩) (by rw [← Hxb.out]; show xb ≤ xb + 1; omega) (.int .i32 imm)).drew) rfl
      · have hfm : formA 3 = 1 := by decide
        obtain ⟨P1, hP1, lP1, s1⟩ := sumF (P := Tryz.prog) N [32] (by (try simp only [List.length_cons, List.length_nil]); omega)
        simp only [List.length_cons, List.length_nil] at lP1
        obtain ⟨P2, hP2, lP2, s2⟩ := sumF (P := Tryz.prog) P1 (rT (a % 16)) (by (try simp only [List.length_cons, List.length_nil]); omega)
        obtain ⟨P3, hP3, lP3, s3⟩ := sumF (P := Tryz.prog) P2 [44, 32] (by (try simp only [List.length_cons, List.length_nil]); omega)
        simp only [List.length_cons, List.length_nil] at lP3
        obtain ⟨P4, hP4, lP4, s4⟩ := sumF (P := Tryz.prog) P3 (Lib.itoa imm) (by (try simp only [List.length_cons, List.length_nil]); omega)
        have HY70 : Hid (Blk (w6.setCell ⟨yb, 4, none⟩ (.int .i32 imm)) yb #[.int .i64 3, .int .i64 (a % 16), .int .i64 0, .int .i64 0, .int .i32 imm] 23) := (HY6.out.set 4 (.int .i32 imm)).cells rfl
        have HR70 : Hid (Blk (w6.setCell ⟨yb, 4, none⟩ (.int .i32 imm)) (xb + 1) #[.int .i64 0, .int .i64 0, .int .i64 0, .int .i64 0, .int .i32 0] 23) := HR6.out.set_other (a := ⟨yb, 4, none⟩) (by have := Hyx.out; show yb ≠ xb + 1; omega) _
        have HX70 : Hid (Blk (w6.setCell ⟨yb, 4, none⟩ (.int .i32 imm)) xb #[.int .i64 3, .int .i64 a, .int .i64 b, .int .i64 c, .int .i32 imm] 23) := HX6.out.set_other (a := ⟨yb, 4, none⟩) (by have := Hyx.out; show yb ≠ xb; omega) _
        have HB70 : Hid (Below w.heap.size w (w6.setCell ⟨yb, 4, none⟩ (.int .i32 imm))) := HB6.out.setCell (p := ⟨yb, 4, none⟩) (by have := Hyx.out; rw [← Hxb.out]; show xb ≤ yb; omega) _
        have hx70 := HX70.out.cell
        have hf70 := (HY6.out).free 4
        have hye := (((((HY70.out.set_other (a := ⟨xb + 1, 0, none⟩) (by have := Hyx.out; show xb + 1 ≠ yb; omega) (.int .i64 3)).set_other (a := ⟨xb + 1, 1, none⟩) (by have := Hyx.out; show xb + 1 ≠ yb; omega) (.int .i64 (a % 16))).set_other (a := ⟨xb + 1, 2, none⟩) (by have := Hyx.out; show xb + 1 ≠ yb; omega) (.int .i64 0)).set_other (a := ⟨xb + 1, 3, none⟩) (by have := Hyx.out; show xb + 1 ≠ yb; omega) (.int .i64 0)).set_other (a := ⟨xb + 1, 4, none⟩) (by have := Hyx.out; show xb + 1 ≠ yb; omega) (.int .i32 imm)).drew.cell
        have HYE := Lib.hid hye
        clear hye
        have hyd := HY70.out.drew.cell
        have hrc := HR70.out.cell
        have hrf := HR70.out.free
        go_wp2_with fail
        go_region_held3 (fun w' => w'.cell? ⟨yb, 0, none⟩ = some (.int .i64 3) ∧ w'.cell? ⟨yb, 1, none⟩ = some (.int .i64 (a % 16)) ∧ w'.cell? ⟨yb, 2, none⟩ = some (.int .i64 0) ∧ w'.cell? ⟨yb, 3, none⟩ = some (.int .i64 0) ∧ w'.cell? ⟨yb, 4, none⟩ = some (.int .i32 imm)) (first | exact ⟨hyd 0, hyd 1, hyd 2, hyd 3, hyd 4⟩ | exact ⟨HYE.out 0, HYE.out 1, HYE.out 2, HYE.out 3, HYE.out 4⟩) (fail)
        go_wp2_with fail
        have hln : insLine ⟨(3 : Nat), a % 16, 0, 0, imm⟩ = N ++ [32] ++ (rT (a % 16)) ++ [44, 32] ++ (Lib.itoa imm) := (Hline.out ⟨(3 : Nat), a % 16, 0, 0, imm⟩ rfl).trans (by rw [hfm]; rfl)
        exact tx_end (y := ⟨(3 : Nat), a % 16, 0, 0, imm⟩) rfl rfl (((((((HR70.out.set 0 (.int .i64 3)).set 1 (.int .i64 (a % 16))).set 2 (.int .i64 0)).set 3 (.int .i64 0)).set 4 (.int .i32 imm)).cells rfl).drew) (by simp [plainA, hfm]) (by rw [hln]; rw [hP4.out, hP3.out, hP2.out, hP1.out]) ((((((HB70.out.setCell (p := ⟨xb + 1, 0, none⟩) (by rw [← Hxb.out]; show xb ≤ xb + 1; omega) (.int .i64 3)).setCell (p := ⟨xb + 1, 1, none⟩) (by rw [← Hxb.out]; show xb ≤ xb + 1; omega) (.int .i64 (a % 16))).setCell (p := ⟨xb + 1, 2, none⟩) (by rw [← Hxb.out]; show xb ≤ xb + 1; omega) (.int .i64 0)).setCell (p := ⟨xb + 1, 3, none⟩) (by rw [← Hxb.out]; show xb ≤ xb + 1; omega) (.int .i64 0)).setCell (p := ⟨xb + 1, 4, none⟩) (by rw [← Hxb.out]; show xb ≤ xb + 1; omega) (.int .i32 imm)).drew) rfl
      · have hfm : formA 29 = 7 := by decide
        obtain ⟨P1, hP1, lP1, s1⟩ := sumF (P := Tryz.prog) N [32] (by (try simp only [List.length_cons, List.length_nil]); omega)
        simp only [List.length_cons, List.length_nil] at lP1
        obtain ⟨P2, hP2, lP2, s2⟩ := sumF (P := Tryz.prog) P1 (rT (a % 16)) (by (try simp only [List.length_cons, List.length_nil]); omega)
        obtain ⟨P3, hP3, lP3, s3⟩ := sumF (P := Tryz.prog) P2 [44, 32] (by (try simp only [List.length_cons, List.length_nil]); omega)
        simp only [List.length_cons, List.length_nil] at lP3
        obtain ⟨P4, hP4, lP4, s4⟩ := sumF (P := Tryz.prog) P3 (Lib.itoa imm) (by (try simp only [List.length_cons, List.length_nil]); omega)
        have HY70 : Hid (Blk (w6.setCell ⟨yb, 4, none⟩ (.int .i32 imm)) yb #[.int .i64 29, .int .i64 (a % 16), .int .i64 0, .int .i64 0, .int .i32 imm] 23) := (HY6.out.set 4 (.int .i32 imm)).cells rfl
        have HR70 : Hid (Blk (w6.setCell ⟨yb, 4, none⟩ (.int .i32 imm)) (xb + 1) #[.int .i64 0, .int .i64 0, .int .i64 0, .int .i64 0, .int .i32 0] 23) := HR6.out.set_other (a := ⟨yb, 4, none⟩) (by have := Hyx.out; show yb ≠ xb + 1; omega) _
        have HX70 : Hid (Blk (w6.setCell ⟨yb, 4, none⟩ (.int .i32 imm)) xb #[.int .i64 29, .int .i64 a, .int .i64 b, .int .i64 c, .int .i32 imm] 23) := HX6.out.set_other (a := ⟨yb, 4, none⟩) (by have := Hyx.out; show yb ≠ xb; omega) _
        have HB70 : Hid (Below w.heap.size w (w6.setCell ⟨yb, 4, none⟩ (.int .i32 imm))) := HB6.out.setCell (p := ⟨yb, 4, none⟩) (by have := Hyx.out; rw [← Hxb.out]; show xb ≤ yb; omega) _
        have hx70 := HX70.out.cell
        have hf70 := (HY6.out).free 4
        have hye := (((((HY70.out.set_other (a := ⟨xb + 1, 0, none⟩) (by have := Hyx.out; show xb + 1 ≠ yb; omega) (.int .i64 29)).set_other (a := ⟨xb + 1, 1, none⟩) (by have := Hyx.out; show xb + 1 ≠ yb; omega) (.int .i64 (a % 16))).set_other (a := ⟨xb + 1, 2, none⟩) (by have := Hyx.out; show xb + 1 ≠ yb; omega) (.int .i64 0)).set_other (a := ⟨xb + 1, 3, none⟩) (by have := Hyx.out; show xb + 1 ≠ yb; omega) (.int .i64 0)).set_other (a := ⟨xb + 1, 4, none⟩) (by have := Hyx.out; show xb + 1 ≠ yb; omega) (.int .i32 imm)).drew.cell
        have HYE := Lib.hid hye
        clear hye
        have hyd := HY70.out.drew.cell
        have hrc := HR70.out.cell
        have hrf := HR70.out.free
        go_wp2_with fail
        go_region_held3 (fun w' => w'.cell? ⟨yb, 0, none⟩ = some (.int .i64 29) ∧ w'.cell? ⟨yb, 1, none⟩ = some (.int .i64 (a % 16)) ∧ w'.cell? ⟨yb, 2, none⟩ = some (.int .i64 0) ∧ w'.cell? ⟨yb, 3, none⟩ = some (.int .i64 0) ∧ w'.cell? ⟨yb, 4, none⟩ = some (.int .i32 imm)) (first | exact ⟨hyd 0, hyd 1, hyd 2, hyd 3, hyd 4⟩ | exact ⟨HYE.out 0, HYE.out 1, HYE.out 2, HYE.out 3, HYE.out 4⟩) (fail)
        go_wp2_with fail
        have hln : insLine ⟨(29 : Nat), a % 16, 0, 0, imm⟩ = N ++ [32] ++ (rT (a % 16)) ++ [44, 32] ++ (Lib.itoa imm) := (Hline.out ⟨(29 : Nat), a % 16, 0, 0, imm⟩ rfl).trans (by rw [hfm]; rfl)
        exact tx_end (y := ⟨(29 : Nat), a % 16, 0, 0, imm⟩) rfl rfl (((((((HR70.out.set 0 (.int .i64 29)).set 1 (.int .i64 (a % 16))).set 2 (.int .i64 0)).set 3 (.int .i64 0)).set 4 (.int .i32 imm)).cells rfl).drew) (by simp [plainA, hfm]) (by rw [hln]; rw [hP4.out, hP3.out, hP2.out, hP1.out]) ((((((HB70.out.setCell (p := ⟨xb + 1, 0, none⟩) (by rw [← Hxb.out]; show xb ≤ xb + 1; omega) (.int .i64 29)).setCell (p := ⟨xb + 1, 1, none⟩) (by rw [← Hxb.out]; show xb ≤ xb + 1; omega) (.int .i64 (a % 16))).setCell (p := ⟨xb + 1, 2, none⟩) (by rw [← Hxb.out]; show xb ≤ xb + 1; omega) (.int .i64 0)).setCell (p := ⟨xb + 1, 3, none⟩) (by rw [← Hxb.out]; show xb ≤ xb + 1; omega) (.int .i64 0)).setCell (p := ⟨xb + 1, 4, none⟩) (by rw [← Hxb.out]; show xb ≤ xb + 1; omega) (.int .i32 imm)).drew) rfl
      · have hfm : formA n = 4 := by
          unfold formA
          repeat' split
          all_goals first | rfl | omega
        have e1 : ((n : Int) == 1) = false := by simp; omega
        have e43 : ((n : Int) == 43) = false := by simp; omega
        have e30 : ((n : Int) == 30) = false := by simp; omega
        have e2 : ((n : Int) == 2) = false := by simp; omega
        have e3 : ((n : Int) == 3) = false := by simp; omega
        have e29 : ((n : Int) == 29) = false := by simp; omega
        have e18 : ((n : Int) == 18) = false := by simp; omega
        have g39 : (39 : Int) ≤ n := by omega
        have g42 : (n : Int) ≤ 42 := by omega
        have g19 : (19 : Int) ≤ n := by omega
        have g24 : ¬ (n : Int) ≤ 24 := by omega
        have g25 : (25 : Int) ≤ n := by omega
        have g28 : ¬ (n : Int) ≤ 28 := by omega
        obtain ⟨P1, hP1, lP1, s1⟩ := sumF (P := Tryz.prog) N [32] (by (try simp only [List.length_cons, List.length_nil]); omega)
        simp only [List.length_cons, List.length_nil] at lP1
        obtain ⟨P2, hP2, lP2, s2⟩ := sumF (P := Tryz.prog) P1 (rT (a % 16)) (by (try simp only [List.length_cons, List.length_nil]); omega)
        obtain ⟨P3, hP3, lP3, s3⟩ := sumF (P := Tryz.prog) P2 [44, 32] (by (try simp only [List.length_cons, List.length_nil]); omega)
        simp only [List.length_cons, List.length_nil] at lP3
        obtain ⟨P4, hP4, lP4, s4⟩ := sumF (P := Tryz.prog) P3 (rT (b % 16)) (by (try simp only [List.length_cons, List.length_nil]); omega)
        have HY70 : Hid (Blk (w6.setCell ⟨yb, 2, none⟩ (.int .i64 (b % 16))) yb #[.int .i64 n, .int .i64 (a % 16), .int .i64 (b % 16), .int .i64 0, .int .i32 0] 23) := (HY6.out.set 2 (.int .i64 (b % 16))).cells rfl
        have HR70 : Hid (Blk (w6.setCell ⟨yb, 2, none⟩ (.int .i64 (b % 16))) (xb + 1) #[.int .i64 0, .int .i64 0, .int .i64 0, .int .i64 0, .int .i32 0] 23) := HR6.out.set_other (a := ⟨yb, 2, none⟩) (by have := Hyx.out; show yb ≠ xb + 1; omega) _
        have HX70 : Hid (Blk (w6.setCell ⟨yb, 2, none⟩ (.int .i64 (b % 16))) xb #[.int .i64 n, .int .i64 a, .int .i64 b, .int .i64 c, .int .i32 imm] 23) := HX6.out.set_other (a := ⟨yb, 2, none⟩) (by have := Hyx.out; show yb ≠ xb; omega) _
        have HB70 : Hid (Below w.heap.size w (w6.setCell ⟨yb, 2, none⟩ (.int .i64 (b % 16)))) := HB6.out.setCell (p := ⟨yb, 2, none⟩) (by have := Hyx.out; rw [← Hxb.out]; show xb ≤ yb; omega) _
        have hx70 := HX70.out.cell
        have hf70 := (HY6.out).free 2
        have hye := (((((HY70.out.set_other (a := ⟨xb + 1, 0, none⟩) (by have := Hyx.out; show xb + 1 ≠ yb; omega) (.int .i64 n)).set_other (a := ⟨xb + 1, 1, none⟩) (by have := Hyx.out; show xb + 1 ≠ yb; omega) (.int .i64 (a % 16))).set_other (a := ⟨xb + 1, 2, none⟩) (by have := Hyx.out; show xb + 1 ≠ yb; omega) (.int .i64 (b % 16))).set_other (a := ⟨xb + 1, 3, none⟩) (by have := Hyx.out; show xb + 1 ≠ yb; omega) (.int .i64 0)).set_other (a := ⟨xb + 1, 4, none⟩) (by have := Hyx.out; show xb + 1 ≠ yb; omega) (.int .i32 0)).drew.cell
        have HYE := Lib.hid hye
        clear hye
        have hyd := HY70.out.drew.cell
        have hrc := HR70.out.cell
        have hrf := HR70.out.free
        go_wp2_with fail
        go_region_held3 (fun w' => w'.cell? ⟨yb, 0, none⟩ = some (.int .i64 n) ∧ w'.cell? ⟨yb, 1, none⟩ = some (.int .i64 (a % 16)) ∧ w'.cell? ⟨yb, 2, none⟩ = some (.int .i64 (b % 16)) ∧ w'.cell? ⟨yb, 3, none⟩ = some (.int .i64 0) ∧ w'.cell? ⟨yb, 4, none⟩ = some (.int .i32 0)) (first | exact ⟨hyd 0, hyd 1, hyd 2, hyd 3, hyd 4⟩ | exact ⟨HYE.out 0, HYE.out 1, HYE.out 2, HYE.out 3, HYE.out 4⟩) (fail)
        go_wp2_with fail
        have hln : insLine ⟨(n : Nat), a % 16, b % 16, 0, 0⟩ = N ++ [32] ++ (rT (a % 16)) ++ [44, 32] ++ (rT (b % 16)) := (Hline.out ⟨(n : Nat), a % 16, b % 16, 0, 0⟩ rfl).trans (by rw [hfm]; rfl)
        exact tx_end (y := ⟨(n : Nat), a % 16, b % 16, 0, 0⟩) rfl rfl (((((((HR70.out.set 0 (.int .i64 n)).set 1 (.int .i64 (a % 16))).set 2 (.int .i64 (b % 16))).set 3 (.int .i64 0)).set 4 (.int .i32 0)).cells rfl).drew) (by simp [plainA, hfm]) (by rw [hln]; rw [hP4.out, hP3.out, hP2.out, hP1.out]) ((((((HB70.out.setCell (p := ⟨xb + 1, 0, none⟩) (by rw [← Hxb.out]; show xb ≤ xb + 1; omega) (.int .i64 n)).setCell (p := ⟨xb + 1, 1, none⟩) (by rw [← Hxb.out]; show xb ≤ xb + 1; omega) (.int .i64 (a % 16))).setCell (p := ⟨xb + 1, 2, none⟩) (by rw [← Hxb.out]; show xb ≤ xb + 1; omega) (.int .i64 (b % 16))).setCell (p := ⟨xb + 1, 3, none⟩) (by rw [← Hxb.out]; show xb ≤ xb + 1; omega) (.int .i64 0)).setCell (p := ⟨xb + 1, 4, none⟩) (by rw [← Hxb.out]; show xb ≤ xb + 1; omega) (.int .i32 0)).drew) rfl
      · have hfm : formA n = 5 := by
          unfold formA
          repeat' split
          all_goals first | rfl | omega
        have e1 : ((n : Int) == 1) = false := by simp; omega
        have e43 : ((n : Int) == 43) = false := by simp; omega
        have e30 : ((n : Int) == 30) = false := by simp; omega
        have e2 : ((n : Int) == 2) = false := by simp; omega
        have e3 : ((n : Int) == 3) = false := by simp; omega
        have e29 : ((n : Int) == 29) = false := by simp; omega
        have e18 : ((n : Int) == 18) = false := by simp; omega
        have g39 : ¬ (39 : Int) ≤ n := by omega
        have g42 : (n : Int) ≤ 42 := by omega
        have g19 : (19 : Int) ≤ n := by omega
        have g24 : (n : Int) ≤ 24 := by omega
        have g25 : ¬ (25 : Int) ≤ n := by omega
        have g28 : (n : Int) ≤ 28 := by omega
        obtain ⟨P1, hP1, lP1, s1⟩ := sumF (P := Tryz.prog) N [32] (by (try simp only [List.length_cons, List.length_nil]); omega)
        simp only [List.length_cons, List.length_nil] at lP1
        obtain ⟨P2, hP2, lP2, s2⟩ := sumF (P := Tryz.prog) P1 (rT (a % 16)) (by (try simp only [List.length_cons, List.length_nil]); omega)
        obtain ⟨P3, hP3, lP3, s3⟩ := sumF (P := Tryz.prog) P2 [44, 32] (by (try simp only [List.length_cons, List.length_nil]); omega)
        simp only [List.length_cons, List.length_nil] at lP3
        obtain ⟨P4, hP4, lP4, s4⟩ := sumF (P := Tryz.prog) P3 (Lib.itoa imm) (by (try simp only [List.length_cons, List.length_nil]); omega)
        obtain ⟨P5, hP5, lP5, s5⟩ := sumF (P := Tryz.prog) P4 [40] (by (try simp only [List.length_cons, List.length_nil]); omega)
        simp only [List.length_cons, List.length_nil] at lP5
        obtain ⟨P6, hP6, lP6, s6⟩ := sumF (P := Tryz.prog) P5 (rT (b % 16)) (by (try simp only [List.length_cons, List.length_nil]); omega)
        obtain ⟨P7, hP7, lP7, s7⟩ := sumF (P := Tryz.prog) P6 [41] (by (try simp only [List.length_cons, List.length_nil]); omega)
        simp only [List.length_cons, List.length_nil] at lP7
        have HY70 : Hid (Blk (w6.setCell ⟨yb, 2, none⟩ (.int .i64 (b % 16))) yb #[.int .i64 n, .int .i64 (a % 16), .int .i64 (b % 16), .int .i64 0, .int .i32 0] 23) := (HY6.out.set 2 (.int .i64 (b % 16))).cells rfl
        have HR70 : Hid (Blk (w6.setCell ⟨yb, 2, none⟩ (.int .i64 (b % 16))) (xb + 1) #[.int .i64 0, .int .i64 0, .int .i64 0, .int .i64 0, .int .i32 0] 23) := HR6.out.set_other (a := ⟨yb, 2, none⟩) (by have := Hyx.out; show yb ≠ xb + 1; omega) _
        have HX70 : Hid (Blk (w6.setCell ⟨yb, 2, none⟩ (.int .i64 (b % 16))) xb #[.int .i64 n, .int .i64 a, .int .i64 b, .int .i64 c, .int .i32 imm] 23) := HX6.out.set_other (a := ⟨yb, 2, none⟩) (by have := Hyx.out; show yb ≠ xb; omega) _
        have HB70 : Hid (Below w.heap.size w (w6.setCell ⟨yb, 2, none⟩ (.int .i64 (b % 16)))) := HB6.out.setCell (p := ⟨yb, 2, none⟩) (by have := Hyx.out; rw [← Hxb.out]; show xb ≤ yb; omega) _
        have hx70 := HX70.out.cell
        have hf70 := (HY6.out).free 2
        have HY71 : Hid (Blk ((w6.setCell ⟨yb, 2, none⟩ (.int .i64 (b % 16))).setCell ⟨yb, 4, none⟩ (.int .i32 imm)) yb #[.int .i64 n, .int .i64 (a % 16), .int .i64 (b % 16), .int .i64 0, .int .i32 imm] 23) := (HY70.out.set 4 (.int .i32 imm)).cells rfl
        have HR71 : Hid (Blk ((w6.setCell ⟨yb, 2, none⟩ (.int .i64 (b % 16))).setCell ⟨yb, 4, none⟩ (.int .i32 imm)) (xb + 1) #[.int .i64 0, .int .i64 0, .int .i64 0, .int .i64 0, .int .i32 0] 23) := HR70.out.set_other (a := ⟨yb, 4, none⟩) (by have := Hyx.out; show yb ≠ xb + 1; omega) _
        have HX71 : Hid (Blk ((w6.setCell ⟨yb, 2, none⟩ (.int .i64 (b % 16))).setCell ⟨yb, 4, none⟩ (.int .i32 imm)) xb #[.int .i64 n, .int .i64 a, .int .i64 b, .int .i64 c, .int .i32 imm] 23) := HX70.out.set_other (a := ⟨yb, 4, none⟩) (by have := Hyx.out; show yb ≠ xb; omega) _
        have HB71 : Hid (Below w.heap.size w ((w6.setCell ⟨yb, 2, none⟩ (.int .i64 (b % 16))).setCell ⟨yb, 4, none⟩ (.int .i32 imm))) := HB70.out.setCell (p := ⟨yb, 4, none⟩) (by have := Hyx.out; rw [← Hxb.out]; show xb ≤ yb; omega) _
        have hx71 := HX71.out.cell
        have hf71 := (HY70.out).free 4
        have hye := (((((HY71.out.set_other (a := ⟨xb + 1, 0, none⟩) (by have := Hyx.out; show xb + 1 ≠ yb; omega) (.int .i64 n)).set_other (a := ⟨xb + 1, 1, none⟩) (by have := Hyx.out; show xb + 1 ≠ yb; omega) (.int .i64 (a % 16))).set_other (a := ⟨xb + 1, 2, none⟩) (by have := Hyx.out; show xb + 1 ≠ yb; omega) (.int .i64 (b % 16))).set_other (a := ⟨xb + 1, 3, none⟩) (by have := Hyx.out; show xb + 1 ≠ yb; omega) (.int .i64 0)).set_other (a := ⟨xb + 1, 4, none⟩) (by have := Hyx.out; show xb + 1 ≠ yb; omega) (.int .i32 imm)).drew.cell
        have HYE := Lib.hid hye
        clear hye
        have hyd := HY71.out.drew.cell
        have hrc := HR71.out.cell
        have hrf := HR71.out.free
        go_wp2_with fail
        go_region_held3 (fun w' => w'.cell? ⟨yb, 0, none⟩ = some (.int .i64 n) ∧ w'.cell? ⟨yb, 1, none⟩ = some (.int .i64 (a % 16)) ∧ w'.cell? ⟨yb, 2, none⟩ = some (.int .i64 (b % 16)) ∧ w'.cell? ⟨yb, 3, none⟩ = some (.int .i64 0) ∧ w'.cell? ⟨yb, 4, none⟩ = some (.int .i32 imm)) (first | exact ⟨hyd 0, hyd 1, hyd 2, hyd 3, hyd 4⟩ | exact ⟨HYE.out 0, HYE.out 1, HYE.out 2, HYE.out 3, HYE.out 4⟩) (fail)
        go_wp2_with fail
        have hln : insLine ⟨(n : Nat), a % 16, b % 16, 0, imm⟩ = N ++ [32] ++ (rT (a % 16)) ++ [44, 32] ++ (Lib.itoa imm) ++ [40] ++ (rT (b % 16)) ++ [41] := (Hline.out ⟨(n : Nat), a % 16, b % 16, 0, imm⟩ rfl).trans (by rw [hfm]; rfl)
        exact tx_end (y := ⟨(n : Nat), a % 16, b % 16, 0, imm⟩) rfl rfl (((((((HR71.out.set 0 (.int .i64 n)).set 1 (.int .i64 (a % 16))).set 2 (.int .i64 (b % 16))).set 3 (.int .i64 0)).set 4 (.int .i32 imm)).cells rfl).drew) (by simp [plainA, hfm]) (by rw [hln]; rw [hP7.out, hP6.out, hP5.out, hP4.out, hP3.out, hP2.out, hP1.out]) ((((((HB71.out.setCell (p := ⟨xb + 1, 0, none⟩) (by rw [← Hxb.out]; show xb ≤ xb + 1; omega) (.int .i64 n)).setCell (p := ⟨xb + 1, 1, none⟩) (by rw [← Hxb.out]; show xb ≤ xb + 1; omega) (.int .i64 (a % 16))).setCell (p := ⟨xb + 1, 2, none⟩) (by rw [← Hxb.out]; show xb ≤ xb + 1; omega) (.int .i64 (b % 16))).setCell (p := ⟨xb + 1, 3, none⟩) (by rw [← Hxb.out]; show xb ≤ xb + 1; omega) (.int .i64 0)).setCell (p := ⟨xb + 1, 4, none⟩) (by rw [← Hxb.out]; show xb ≤ xb + 1; omega) (.int .i32 imm)).drew) rfl
      · have hfm : formA 18 = 2 := by decide
        obtain ⟨P1, hP1, lP1, s1⟩ := sumF (P := Tryz.prog) N [32] (by (try simp only [List.length_cons, List.length_nil]); omega)
        simp only [List.length_cons, List.length_nil] at lP1
        obtain ⟨P2, hP2, lP2, s2⟩ := sumF (P := Tryz.prog) P1 (rT (a % 16)) (by (try simp only [List.length_cons, List.length_nil]); omega)
        obtain ⟨P3, hP3, lP3, s3⟩ := sumF (P := Tryz.prog) P2 [44, 32] (by (try simp only [List.length_cons, List.length_nil]); omega)
        simp only [List.length_cons, List.length_nil] at lP3
        obtain ⟨P4, hP4, lP4, s4⟩ := sumF (P := Tryz.prog) P3 (rT (b % 16)) (by (try simp only [List.length_cons, List.length_nil]); omega)
        obtain ⟨P5, hP5, lP5, s5⟩ := sumF (P := Tryz.prog) P4 [44, 32] (by (try simp only [List.length_cons, List.length_nil]); omega)
        simp only [List.length_cons, List.length_nil] at lP5
        obtain ⟨P6, hP6, lP6, s6⟩ := sumF (P := Tryz.prog) P5 (Lib.itoa imm) (by (try simp only [List.length_cons, List.length_nil]); omega)
        have HY70 : Hid (Blk (w6.setCell ⟨yb, 2, none⟩ (.int .i64 (b % 16))) yb #[.int .i64 18, .int .i64 (a % 16), .int .i64 (b % 16), .int .i64 0, .int .i32 0] 23) := (HY6.out.set 2 (.int .i64 (b % 16))).cells rfl
        have HR70 : Hid (Blk (w6.setCell ⟨yb, 2, none⟩ (.int .i64 (b % 16))) (xb + 1) #[.int .i64 0, .int .i64 0, .int .i64 0, .int .i64 0, .int .i32 0] 23) := HR6.out.set_other (a := ⟨yb, 2, none⟩) (by have := Hyx.out; show yb ≠ xb + 1; omega) _
        have HX70 : Hid (Blk (w6.setCell ⟨yb, 2, none⟩ (.int .i64 (b % 16))) xb #[.int .i64 18, .int .i64 a, .int .i64 b, .int .i64 c, .int .i32 imm] 23) := HX6.out.set_other (a := ⟨yb, 2, none⟩) (by have := Hyx.out; show yb ≠ xb; omega) _
        have HB70 : Hid (Below w.heap.size w (w6.setCell ⟨yb, 2, none⟩ (.int .i64 (b % 16)))) := HB6.out.setCell (p := ⟨yb, 2, none⟩) (by have := Hyx.out; rw [← Hxb.out]; show xb ≤ yb; omega) _
        have hx70 := HX70.out.cell
        have hf70 := (HY6.out).free 2
        have HY71 : Hid (Blk ((w6.setCell ⟨yb, 2, none⟩ (.int .i64 (b % 16))).setCell ⟨yb, 4, none⟩ (.int .i32 imm)) yb #[.int .i64 18, .int .i64 (a % 16), .int .i64 (b % 16), .int .i64 0, .int .i32 imm] 23) := (HY70.out.set 4 (.int .i32 imm)).cells rfl
        have HR71 : Hid (Blk ((w6.setCell ⟨yb, 2, none⟩ (.int .i64 (b % 16))).setCell ⟨yb, 4, none⟩ (.int .i32 imm)) (xb + 1) #[.int .i64 0, .int .i64 0, .int .i64 0, .int .i64 0, .int .i32 0] 23) := HR70.out.set_other (a := ⟨yb, 4, none⟩) (by have := Hyx.out; show yb ≠ xb + 1; omega) _
        have HX71 : Hid (Blk ((w6.setCell ⟨yb, 2, none⟩ (.int .i64 (b % 16))).setCell ⟨yb, 4, none⟩ (.int .i32 imm)) xb #[.int .i64 18, .int .i64 a, .int .i64 b, .int .i64 c, .int .i32 imm] 23) := HX70.out.set_other (a := ⟨yb, 4, none⟩) (by have := Hyx.out; show yb ≠ xb; omega) _
        have HB71 : Hid (Below w.heap.size w ((w6.setCell ⟨yb, 2, none⟩ (.int .i64 (b % 16))).setCell ⟨yb, 4, none⟩ (.int .i32 imm))) := HB70.out.setCell (p := ⟨yb, 4, none⟩) (by have := Hyx.out; rw [← Hxb.out]; show xb ≤ yb; omega) _
        have hx71 := HX71.out.cell
        have hf71 := (HY70.out).free 4
        have hye := (((((HY71.out.set_other (a := ⟨xb + 1, 0, none⟩) (by have := Hyx.out; show xb + 1 ≠ yb; omega) (.int .i64 18)).set_other (a := ⟨xb + 1, 1, none⟩) (by have := Hyx.out; show xb + 1 ≠ yb; omega) (.int .i64 (a % 16))).set_other (a := ⟨xb + 1, 2, none⟩) (by have := Hyx.out; show xb + 1 ≠ yb; omega) (.int .i64 (b % 16))).set_other (a := ⟨xb + 1, 3, none⟩) (by have := Hyx.out; show xb + 1 ≠ yb; omega) (.int .i64 0)).set_other (a := ⟨xb + 1, 4, none⟩) (by have := Hyx.out; show xb + 1 ≠ yb; omega) (.int .i32 imm)).drew.cell
        have HYE := Lib.hid hye
        clear hye
        have hyd := HY71.out.drew.cell
        have hrc := HR71.out.cell
        have hrf := HR71.out.free
        go_wp2_with fail
        go_region_held3 (fun w' => w'.cell? ⟨yb, 0, none⟩ = some (.int .i64 18) ∧ w'.cell? ⟨yb, 1, none⟩ = some (.int .i64 (a % 16)) ∧ w'.cell? ⟨yb, 2, none⟩ = some (.int .i64 (b % 16)) ∧ w'.cell? ⟨yb, 3, none⟩ = some (.int .i64 0) ∧ w'.cell? ⟨yb, 4, none⟩ = some (.int .i32 imm)) (first | exact ⟨hyd 0, hyd 1, hyd 2, hyd 3, hyd 4⟩ | exact ⟨HYE.out 0, HYE.out 1, HYE.out 2, HYE.out 3, HYE.out 4⟩) (fail)
        go_wp2_with fail
        have hln : insLine ⟨(18 : Nat), a % 16, b % 16, 0, imm⟩ = N ++ [32] ++ (rT (a % 16)) ++ [44, 32] ++ (rT (b % 16)) ++ [44, 32] ++ (Lib.itoa imm) := (Hline.out ⟨(18 : Nat), a % 16, b % 16, 0, imm⟩ rfl).trans (by rw [hfm]; rfl)
        exact tx_end (y := ⟨(18 : Nat), a % 16, b % 16, 0, imm⟩) rfl rfl (((((((HR71.out.set 0 (.int .i64 18)).set 1 (.int .i64 (a % 16))).set 2 (.int .i64 (b % 16))).set 3 (.int .i64 0)).set 4 (.int .i32 imm)).cells rfl).drew) (by simp [plainA, hfm]) (by rw [hln]; rw [hP6.out, hP5.out, hP4.out, hP3.out, hP2.out, hP1.out]) ((((((HB71.out.setCell (p := ⟨xb + 1, 0, none⟩) (by rw [← Hxb.out]; show xb ≤ xb + 1; omega) (.int .i64 18)).setCell (p := ⟨xb + 1, 1, none⟩) (by rw [← Hxb.out]; show xb ≤ xb + 1; omega) (.int .i64 (a % 16))).setCell (p := ⟨xb + 1, 2, none⟩) (by rw [← Hxb.out]; show xb ≤ xb + 1; omega) (.int .i64 (b % 16))).setCell (p := ⟨xb + 1, 3, none⟩) (by rw [← Hxb.out]; show xb ≤ xb + 1; omega) (.int .i64 0)).setCell (p := ⟨xb + 1, 4, none⟩) (by rw [← Hxb.out]; show xb ≤ xb + 1; omega) (.int .i32 imm)).drew) rfl
      · have hfm : formA n = 6 := by
          unfold formA
          repeat' split
          all_goals first | rfl | omega
        have e1 : ((n : Int) == 1) = false := by simp; omega
        have e43 : ((n : Int) == 43) = false := by simp; omega
        have e30 : ((n : Int) == 30) = false := by simp; omega
        have e2 : ((n : Int) == 2) = false := by simp; omega
        have e3 : ((n : Int) == 3) = false := by simp; omega
        have e29 : ((n : Int) == 29) = false := by simp; omega
        have e18 : ((n : Int) == 18) = false := by simp; omega
        have g39 : ¬ (39 : Int) ≤ n := by omega
        have g42 : (n : Int) ≤ 42 := by omega
        have g19 : (19 : Int) ≤ n := by omega
        have g24 : ¬ (n : Int) ≤ 24 := by omega
        have g25 : (25 : Int) ≤ n := by omega
        have g28 : (n : Int) ≤ 28 := by omega
        obtain ⟨P1, hP1, lP1, s1⟩ := sumF (P := Tryz.prog) N [32] (by (try simp only [List.length_cons, List.length_nil]); omega)
        simp only [List.length_cons, List.length_nil] at lP1
        obtain ⟨P2, hP2, lP2, s2⟩ := sumF (P := Tryz.prog) P1 (rT (a % 16)) (by (try simp only [List.length_cons, List.length_nil]); omega)
        obtain ⟨P3, hP3, lP3, s3⟩ := sumF (P := Tryz.prog) P2 [44, 32] (by (try simp only [List.length_cons, List.length_nil]); omega)
        simp only [List.length_cons, List.length_nil] at lP3
        obtain ⟨P4, hP4, lP4, s4⟩ := sumF (P := Tryz.prog) P3 (rT (b % 16)) (by (try simp only [List.length_cons, List.length_nil]); omega)
        obtain ⟨P5, hP5, lP5, s5⟩ := sumF (P := Tryz.prog) P4 [44, 32] (by (try simp only [List.length_cons, List.length_nil]); omega)
        simp only [List.length_cons, List.length_nil] at lP5
        obtain ⟨P6, hP6, lP6, s6⟩ := sumF (P := Tryz.prog) P5 (Lib.itoa imm) (by (try simp only [List.length_cons, List.length_nil]); omega)
        have HY70 : Hid (Blk (w6.setCell ⟨yb, 2, none⟩ (.int .i64 (b % 16))) yb #[.int .i64 n, .int .i64 (a % 16), .int .i64 (b % 16), .int .i64 0, .int .i32 0] 23) := (HY6.out.set 2 (.int .i64 (b % 16))).cells rfl
        have HR70 : Hid (Blk (w6.setCell ⟨yb, 2, none⟩ (.int .i64 (b % 16))) (xb + 1) #[.int .i64 0, .int .i64 0, .int .i64 0, .int .i64 0, .int .i32 0] 23) := HR6.out.set_other (a := ⟨yb, 2, none⟩) (by have := Hyx.out; show yb ≠ xb + 1; omega) _
        have HX70 : Hid (Blk (w6.setCell ⟨yb, 2, none⟩ (.int .i64 (b % 16))) xb #[.int .i64 n, .int .i64 a, .int .i64 b, .int .i64 c, .int .i32 imm] 23) := HX6.out.set_other (a := ⟨yb, 2, none⟩) (by have := Hyx.out; show yb ≠ xb; omega) _
        have HB70 : Hid (Below w.heap.size w (w6.setCell ⟨yb, 2, none⟩ (.int .i64 (b % 16)))) := HB6.out.setCell (p := ⟨yb, 2, none⟩) (by have := Hyx.out; rw [← Hxb.out]; show xb ≤ yb; omega) _
        have hx70 := HX70.out.cell
        have hf70 := (HY6.out).free 2
        have HY71 : Hid (Blk ((w6.setCell ⟨yb, 2, none⟩ (.int .i64 (b % 16))).setCell ⟨yb, 4, none⟩ (.int .i32 imm)) yb #[.int .i64 n, .int .i64 (a % 16), .int .i64 (b % 16), .int .i64 0, .int .i32 imm] 23) := (HY70.out.set 4 (.int .i32 imm)).cells rfl
        have HR71 : Hid (Blk ((w6.setCell ⟨yb, 2, none⟩ (.int .i64 (b % 16))).setCell ⟨yb, 4, none⟩ (.int .i32 imm)) (xb + 1) #[.int .i64 0, .int .i64 0, .int .i64 0, .int .i64 0, .int .i32 0] 23) := HR70.out.set_other (a := ⟨yb, 4, none⟩) (by have := Hyx.out; show yb ≠ xb + 1; omega) _
        have HX71 : Hid (Blk ((w6.setCell ⟨yb, 2, none⟩ (.int .i64 (b % 16))).setCell ⟨yb, 4, none⟩ (.int .i32 imm)) xb #[.int .i64 n, .int .i64 a, .int .i64 b, .int .i64 c, .int .i32 imm] 23) := HX70.out.set_other (a := ⟨yb, 4, none⟩) (by have := Hyx.out; show yb ≠ xb; omega) _
        have HB71 : Hid (Below w.heap.size w ((w6.setCell ⟨yb, 2, none⟩ (.int .i64 (b % 16))).setCell ⟨yb, 4, none⟩ (.int .i32 imm))) := HB70.out.setCell (p := ⟨yb, 4, none⟩) (by have := Hyx.out; rw [← Hxb.out]; show xb ≤ yb; omega) _
        have hx71 := HX71.out.cell
        have hf71 := (HY70.out).free 4
        have hye := (((((HY71.out.set_other (a := ⟨xb + 1, 0, none⟩) (by have := Hyx.out; show xb + 1 ≠ yb; omega) (.int .i64 n)).set_other (a := ⟨xb + 1, 1, none⟩) (by have := Hyx.out; show xb + 1 ≠ yb; omega) (.int .i64 (a % 16))).set_other (a := ⟨xb + 1, 2, none⟩) (by have := Hyx.out; show xb + 1 ≠ yb; omega) (.int .i64 (b % 16))).set_other (a := ⟨xb + 1, 3, none⟩) (by have := Hyx.out; show xb + 1 ≠ yb; omega) (.int .i64 0)).set_other (a := ⟨xb + 1, 4, none⟩) (by have := Hyx.out; show xb + 1 ≠ yb; omega) (.int .i32 imm)).drew.cell
        have HYE := Lib.hid hye
        clear hye
        have hyd := HY71.out.drew.cell
        have hrc := HR71.out.cell
        have hrf := HR71.out.free
        go_wp2_with fail
        go_region_held3 (fun w' => w'.cell? ⟨yb, 0, none⟩ = some (.int .i64 n) ∧ w'.cell? ⟨yb, 1, none⟩ = some (.int .i64 (a % 16)) ∧ w'.cell? ⟨yb, 2, none⟩ = some (.int .i64 (b % 16)) ∧ w'.cell? ⟨yb, 3, none⟩ = some (.int .i64 0) ∧ w'.cell? ⟨yb, 4, none⟩ = some (.int .i32 imm)) (first | exact ⟨hyd 0, hyd 1, hyd 2, hyd 3, hyd 4⟩ | exact ⟨HYE.out 0, HYE.out 1, HYE.out 2, HYE.out 3, HYE.out 4⟩) (fail)
        go_wp2_with fail
        have hln : insLine ⟨(n : Nat), a % 16, b % 16, 0, imm⟩ = N ++ [32] ++ (rT (a % 16)) ++ [44, 32] ++ (rT (b % 16)) ++ [44, 32] ++ (Lib.itoa imm) := (Hline.out ⟨(n : Nat), a % 16, b % 16, 0, imm⟩ rfl).trans (by rw [hfm]; rfl)
        exact tx_end (y := ⟨(n : Nat), a % 16, b % 16, 0, imm⟩) rfl rfl (((((((HR71.out.set 0 (.int .i64 n)).set 1 (.int .i64 (a % 16))).set 2 (.int .i64 (b % 16))).set 3 (.int .i64 0)).set 4 (.int .i32 imm)).cells rfl).drew) (by simp [plainA, hfm]) (by rw [hln]; rw [hP6.out, hP5.out, hP4.out, hP3.out, hP2.out, hP1.out]) ((((((HB71.out.setCell (p := ⟨xb + 1, 0, none⟩) (by rw [← Hxb.out]; show xb ≤ xb + 1; omega) (.int .i64 n)).setCell (p := ⟨xb + 1, 1, none⟩) (by rw [← Hxb.out]; show xb ≤ xb + 1; omega) (.int .i64 (a % 16))).setCell (p := ⟨xb + 1, 2, none⟩) (by rw [← Hxb.out]; show xb ≤ xb + 1; omega) (.int .i64 (b % 16))).setCell (p := ⟨xb + 1, 3, none⟩) (by rw [← Hxb.out]; show xb ≤ xb + 1; omega) (.int .i64 0)).setCell (p := ⟨xb + 1, 4, none⟩) (by rw [← Hxb.out]; show xb ≤ xb + 1; omega) (.int .i32 imm)).drew) rfl
      · have hfm : formA n = 3 := by
          unfold formA
          repeat' split
          all_goals first | rfl | omega
        have e1 : ((n : Int) == 1) = false := by simp; omega
        have e43 : ((n : Int) == 43) = false := by simp; omega
        have e30 : ((n : Int) == 30) = false := by simp; omega
        have e2 : ((n : Int) == 2) = false := by simp; omega
        have e3 : ((n : Int) == 3) = false := by simp; omega
        have e29 : ((n : Int) == 29) = false := by simp; omega
        have e18 : ((n : Int) == 18) = false := by simp; omega
        have g39 : ¬ (39 : Int) ≤ n := by omega
        have g42 : (n : Int) ≤ 42 := by omega
        have g19 : ¬ (19 : Int) ≤ n := by omega
        have g24 : (n : Int) ≤ 24 := by omega
        have g25 : ¬ (25 : Int) ≤ n := by omega
        have g28 : (n : Int) ≤ 28 := by omega
        obtain ⟨P1, hP1, lP1, s1⟩ := sumF (P := Tryz.prog) N [32] (by (try simp only [List.length_cons, List.length_nil]); omega)
        simp only [List.length_cons, List.length_nil] at lP1
        obtain ⟨P2, hP2, lP2, s2⟩ := sumF (P := Tryz.prog) P1 (rT (a % 16)) (by (try simp only [List.length_cons, List.length_nil]); omega)
        obtain ⟨P3, hP3, lP3, s3⟩ := sumF (P := Tryz.prog) P2 [44, 32] (by (try simp only [List.length_cons, List.length_nil]); omega)
        simp only [List.length_cons, List.length_nil] at lP3
        obtain ⟨P4, hP4, lP4, s4⟩ := sumF (P := Tryz.prog) P3 (rT (b % 16)) (by (try simp only [List.length_cons, List.length_nil]); omega)
        obtain ⟨P5, hP5, lP5, s5⟩ := sumF (P := Tryz.prog) P4 [44, 32] (by (try simp only [List.length_cons, List.length_nil]); omega)
        simp only [List.length_cons, List.length_nil] at lP5
        obtain ⟨P6, hP6, lP6, s6⟩ := sumF (P := Tryz.prog) P5 (rT (c % 16)) (by (try simp only [List.length_cons, List.length_nil]); omega)
        have HY70 : Hid (Blk (w6.setCell ⟨yb, 2, none⟩ (.int .i64 (b % 16))) yb #[.int .i64 n, .int .i64 (a % 16), .int .i64 (b % 16), .int .i64 0, .int .i32 0] 23) := (HY6.out.set 2 (.int .i64 (b % 16))).cells rfl
        have HR70 : Hid (Blk (w6.setCell ⟨yb, 2, none⟩ (.int .i64 (b % 16))) (xb + 1) #[.int .i64 0, .int .i64 0, .int .i64 0, .int .i64 0, .int .i32 0] 23) := HR6.out.set_other (a := ⟨yb, 2, none⟩) (by have := Hyx.out; show yb ≠ xb + 1; omega) _
        have HX70 : Hid (Blk (w6.setCell ⟨yb, 2, none⟩ (.int .i64 (b % 16))) xb #[.int .i64 n, .int .i64 a, .int .i64 b, .int .i64 c, .int .i32 imm] 23) := HX6.out.set_other (a := ⟨yb, 2, none⟩) (by have := Hyx.out; show yb ≠ xb; omega) _
        have HB70 : Hid (Below w.heap.size w (w6.setCell ⟨yb, 2, none⟩ (.int .i64 (b % 16)))) := HB6.out.setCell (p := ⟨yb, 2, none⟩) (by have := Hyx.out; rw [← Hxb.out]; show xb ≤ yb; omega) _
        have hx70 := HX70.out.cell
        have hf70 := (HY6.out).free 2
        have HY71 : Hid (Blk ((w6.setCell ⟨yb, 2, none⟩ (.int .i64 (b % 16))).setCell ⟨yb, 3, none⟩ (.int .i64 (c % 16))) yb #[.int .i64 n, .int .i64 (a % 16), .int .i64 (b % 16), .int .i64 (c % 16), .int .i32 0] 23) := (HY70.out.set 3 (.int .i64 (c % 16))).cells rfl
        have HR71 : Hid (Blk ((w6.setCell ⟨yb, 2, none⟩ (.int .i64 (b % 16))).setCell ⟨yb, 3, none⟩ (.int .i64 (c % 16))) (xb + 1) #[.int .i64 0, .int .i64 0, .int .i64 0, .int .i64 0, .int .i32 0] 23) := HR70.out.set_other (a := ⟨yb, 3, none⟩) (by have := Hyx.out; show yb ≠ xb + 1; omega) _
        have HX71 : Hid (Blk ((w6.setCell ⟨yb, 2, none⟩ (.int .i64 (b % 16))).setCell ⟨yb, 3, none⟩ (.int .i64 (c % 16))) xb #[.int .i64 n, .int .i64 a, .int .i64 b, .int .i64 c, .int .i32 imm] 23) := HX70.out.set_other (a := ⟨yb, 3, none⟩) (by have := Hyx.out; show yb ≠ xb; omega) _
        have HB71 : Hid (Below w.heap.size w ((w6.setCell ⟨yb, 2, none⟩ (.int .i64 (b % 16))).setCell ⟨yb, 3, none⟩ (.int .i64 (c % 16)))) := HB70.out.setCell (p := ⟨yb, 3, none⟩) (by have := Hyx.out; rw [← Hxb.out]; show xb ≤ yb; omega) _
        have hx71 := HX71.out.cell
        have hf71 := (HY70.out).free 3
        have hye := (((((HY71.out.set_other (a := ⟨xb + 1, 0, none⟩) (by have := Hyx.out; show xb + 1 ≠ yb; omega) (.int .i64 n)).set_other (a := ⟨xb + 1, 1, none⟩) (by have := Hyx.out; show xb + 1 ≠ yb; omega) (.int .i64 (a % 16))).set_other (a := ⟨xb + 1, 2, none⟩) (by have := Hyx.out; show xb + 1 ≠ yb; omega) (.int .i64 (b % 16))).set_other (a := ⟨xb + 1, 3, none⟩) (by have := Hyx.out; show xb + 1 ≠ yb; omega) (.int .i64 (c % 16))).set_other (a := ⟨xb + 1, 4, none⟩) (by have := Hyx.out; show xb + 1 ≠ yb; omega) (.int .i32 0)).drew.cell
        have HYE := Lib.hid hye
        clear hye
        have hyd := HY71.out.drew.cell
        have hrc := HR71.out.cell
        have hrf := HR71.out.free
        go_wp2_with fail
        go_region_held3 (fun w' => w'.cell? ⟨yb, 0, none⟩ = some (.int .i64 n) ∧ w'.cell? ⟨yb, 1, none⟩ = some (.int .i64 (a % 16)) ∧ w'.cell? ⟨yb, 2, none⟩ = some (.int .i64 (b % 16)) ∧ w'.cell? ⟨yb, 3, none⟩ = some (.int .i64 (c % 16)) ∧ w'.cell? ⟨yb, 4, none⟩ = some (.int .i32 0)) (first | exact ⟨hyd 0, hyd 1, hyd 2, hyd 3, hyd 4⟩ | exact ⟨HYE.out 0, HYE.out 1, HYE.out 2, HYE.out 3, HYE.out 4⟩) (fail)
        go_wp2_with fail
        have hln : insLine ⟨(n : Nat), a % 16, b % 16, c % 16, 0⟩ = N ++ [32] ++ (rT (a % 16)) ++ [44, 32] ++ (rT (b % 16)) ++ [44, 32] ++ (rT (c % 16)) := (Hline.out ⟨(n : Nat), a % 16, b % 16, c % 16, 0⟩ rfl).trans (by rw [hfm]; rfl)
        exact tx_end (y := ⟨(n : Nat), a % 16, b % 16, c % 16, 0⟩) rfl rfl (((((((HR71.out.set 0 (.int .i64 n)).set 1 (.int .i64 (a % 16))).set 2 (.int .i64 (b % 16))).set 3 (.int .i64 (c % 16))).set 4 (.int .i32 0)).cells rfl).drew) (by simp [plainA, hfm]) (by rw [hln]; rw [hP6.out, hP5.out, hP4.out, hP3.out, hP2.out, hP1.out]) ((((((HB71.out.setCell (p := ⟨xb + 1, 0, none⟩) (by rw [← Hxb.out]; show xb ≤ xb + 1; omega) (.int .i64 n)).setCell (p := ⟨xb + 1, 1, none⟩) (by rw [← Hxb.out]; show xb ≤ xb + 1; omega) (.int .i64 (a % 16))).setCell (p := ⟨xb + 1, 2, none⟩) (by rw [← Hxb.out]; show xb ≤ xb + 1; omega) (.int .i64 (b % 16))).setCell (p := ⟨xb + 1, 3, none⟩) (by rw [← Hxb.out]; show xb ≤ xb + 1; omega) (.int .i64 (c % 16))).setCell (p := ⟨xb + 1, 4, none⟩) (by rw [← Hxb.out]; show xb ≤ xb + 1; omega) (.int .i32 0)).drew) rfl
      · have hfm : formA n = 3 := by
          unfold formA
          repeat' split
          all_goals first | rfl | omega
        have e1 : ((n : Int) == 1) = false := by simp; omega
        have e43 : ((n : Int) == 43) = false := by simp; omega
        have e30 : ((n : Int) == 30) = false := by simp; omega
        have e2 : ((n : Int) == 2) = false := by simp; omega
        have e3 : ((n : Int) == 3) = false := by simp; omega
        have e29 : ((n : Int) == 29) = false := by simp; omega
        have e18 : ((n : Int) == 18) = false := by simp; omega
        have g39 : ¬ (39 : Int) ≤ n := by omega
        have g42 : (n : Int) ≤ 42 := by omega
        have g19 : (19 : Int) ≤ n := by omega
        have g24 : ¬ (n : Int) ≤ 24 := by omega
        have g25 : (25 : Int) ≤ n := by omega
        have g28 : ¬ (n : Int) ≤ 28 := by omega
        obtain ⟨P1, hP1, lP1, s1⟩ := sumF (P := Tryz.prog) N [32] (by (try simp only [List.length_cons, List.length_nil]); omega)
        simp only [List.length_cons, List.length_nil] at lP1
        obtain ⟨P2, hP2, lP2, s2⟩ := sumF (P := Tryz.prog) P1 (rT (a % 16)) (by (try simp only [List.length_cons, List.length_nil]); omega)
        obtain ⟨P3, hP3, lP3, s3⟩ := sumF (P := Tryz.prog) P2 [44, 32] (by (try simp only [List.length_cons, List.length_nil]); omega)
        simp only [List.length_cons, List.length_nil] at lP3
        obtain ⟨P4, hP4, lP4, s4⟩ := sumF (P := Tryz.prog) P3 (rT (b % 16)) (by (try simp only [List.length_cons, List.length_nil]); omega)
        obtain ⟨P5, hP5, lP5, s5⟩ := sumF (P := Tryz.prog) P4 [44, 32] (by (try simp only [List.length_cons, List.length_nil]); omega)
        simp only [List.length_cons, List.length_nil] at lP5
        obtain ⟨P6, hP6, lP6, s6⟩ := sumF (P := Tryz.prog) P5 (rT (c % 16)) (by (try simp only [List.length_cons, List.length_nil]); omega)
        have HY70 : Hid (Blk (w6.setCell ⟨yb, 2, none⟩ (.int .i64 (b % 16))) yb #[.int .i64 n, .int .i64 (a % 16), .int .i64 (b % 16), .int .i64 0, .int .i32 0] 23) := (HY6.out.set 2 (.int .i64 (b % 16))).cells rfl
        have HR70 : Hid (Blk (w6.setCell ⟨yb, 2, none⟩ (.int .i64 (b % 16))) (xb + 1) #[.int .i64 0, .int .i64 0, .int .i64 0, .int .i64 0, .int .i32 0] 23) := HR6.out.set_other (a := ⟨yb, 2, none⟩) (by have := Hyx.out; show yb ≠ xb + 1; omega) _
        have HX70 : Hid (Blk (w6.setCell ⟨yb, 2, none⟩ (.int .i64 (b % 16))) xb #[.int .i64 n, .int .i64 a, .int .i64 b, .int .i64 c, .int .i32 imm] 23) := HX6.out.set_other (a := ⟨yb, 2, none⟩) (by have := Hyx.out; show yb ≠ xb; omega) _
        have HB70 : Hid (Below w.heap.size w (w6.setCell ⟨yb, 2, none⟩ (.int .i64 (b % 16)))) := HB6.out.setCell (p := ⟨yb, 2, none⟩) (by have := Hyx.out; rw [← Hxb.out]; show xb ≤ yb; omega) _
        have hx70 := HX70.out.cell
        have hf70 := (HY6.out).free 2
        have HY71 : Hid (Blk ((w6.setCell ⟨yb, 2, none⟩ (.int .i64 (b % 16))).setCell ⟨yb, 3, none⟩ (.int .i64 (c % 16))) yb #[.int .i64 n, .int .i64 (a % 16), .int .i64 (b % 16), .int .i64 (c % 16), .int .i32 0] 23) := (HY70.out.set 3 (.int .i64 (c % 16))).cells rfl
        have HR71 : Hid (Blk ((w6.setCell ⟨yb, 2, none⟩ (.int .i64 (b % 16))).setCell ⟨yb, 3, none⟩ (.int .i64 (c % 16))) (xb + 1) #[.int .i64 0, .int .i64 0, .int .i64 0, .int .i64 0, .int .i32 0] 23) := HR70.out.set_other (a := ⟨yb, 3, none⟩) (by have := Hyx.out; show yb ≠ xb + 1; omega) _
        have HX71 : Hid (Blk ((w6.setCell ⟨yb, 2, none⟩ (.int .i64 (b % 16))).setCell ⟨yb, 3, none⟩ (.int .i64 (c % 16))) xb #[.int .i64 n, .int .i64 a, .int .i64 b, .int .i64 c, .int .i32 imm] 23) := HX70.out.set_other (a := ⟨yb, 3, none⟩) (by have := Hyx.out; show yb ≠ xb; omega) _
        have HB71 : Hid (Below w.heap.size w ((w6.setCell ⟨yb, 2, none⟩ (.int .i64 (b % 16))).setCell ⟨yb, 3, none⟩ (.int .i64 (c % 16)))) := HB70.out.setCell (p := ⟨yb, 3, none⟩) (by have := Hyx.out; rw [← Hxb.out]; show xb ≤ yb; omega) _
        have hx71 := HX71.out.cell
        have hf71 := (HY70.out).free 3
        have hye := (((((HY71.out.set_other (a := ⟨xb + 1, 0, none⟩) (by have := Hyx.out; show xb + 1 ≠ yb; omega) (.int .i64 n)).set_other (a := ⟨xb + 1, 1, none⟩) (by have := Hyx.out; show xb + 1 ≠ yb; omega) (.int .i64 (a % 16))).set_other (a := ⟨xb + 1, 2, none⟩) (by have := Hyx.out; show xb + 1 ≠ yb; omega) (.int .i64 (b % 16))).set_other (a := ⟨xb + 1, 3, none⟩) (by have := Hyx.out; show xb + 1 ≠ yb; omega) (.int .i64 (c % 16))).set_other (a := ⟨xb + 1, 4, none⟩) (by have := Hyx.out; show xb + 1 ≠ yb; omega) (.int .i32 0)).drew.cell
        have HYE := Lib.hid hye
        clear hye
        have hyd := HY71.out.drew.cell
        have hrc := HR71.out.cell
        have hrf := HR71.out.free
        go_wp2_with fail
        go_region_held3 (fun w' => w'.cell? ⟨yb, 0, none⟩ = some (.int .i64 n) ∧ w'.cell? ⟨yb, 1, none⟩ = some (.int .i64 (a % 16)) ∧ w'.cell? ⟨yb, 2, none⟩ = some (.int .i64 (b % 16)) ∧ w'.cell? ⟨yb, 3, none⟩ = some (.int .i64 (c % 16)) ∧ w'.cell? ⟨yb, 4, none⟩ = some (.int .i32 0)) (first | exact ⟨hyd 0, hyd 1, hyd 2, hyd 3, hyd 4⟩ | exact ⟨HYE.out 0, HYE.out 1, HYE.out 2, HYE.out 3, HYE.out 4⟩) (fail)
        go_wp2_with fail
        have hln : insLine ⟨(n : Nat), a % 16, b % 16, c % 16, 0⟩ = N ++ [32] ++ (rT (a % 16)) ++ [44, 32] ++ (rT (b % 16)) ++ [44, 32] ++ (rT (c % 16)) := (Hline.out ⟨(n : Nat), a % 16, b % 16, c % 16, 0⟩ rfl).trans (by rw [hfm]; rfl)
        exact tx_end (y := ⟨(n : Nat), a % 16, b % 16, c % 16, 0⟩) rfl rfl (((((((HR71.out.set 0 (.int .i64 n)).set 1 (.int .i64 (a % 16))).set 2 (.int .i64 (b % 16))).set 3 (.int .i64 (c % 16))).set 4 (.int .i32 0)).cells rfl).drew) (by simp [plainA, hfm]) (by rw [hln]; rw [hP6.out, hP5.out, hP4.out, hP3.out, hP2.out, hP1.out]) ((((((HB71.out.setCell (p := ⟨xb + 1, 0, none⟩) (by rw [← Hxb.out]; show xb ≤ xb + 1; omega) (.int .i64 n)).setCell (p := ⟨xb + 1, 1, none⟩) (by rw [← Hxb.out]; show xb ≤ xb + 1; omega) (.int .i64 (a % 16))).setCell (p := ⟨xb + 1, 2, none⟩) (by rw [← Hxb.out]; show xb ≤ xb + 1; omega) (.int .i64 (b % 16))).setCell (p := ⟨xb + 1, 3, none⟩) (by rw [← Hxb.out]; show xb ≤ xb + 1; omega) (.int .i64 (c % 16))).setCell (p := ⟨xb + 1, 4, none⟩) (by rw [← Hxb.out]; show xb ≤ xb + 1; omega) (.int .i32 0)).drew) rfl
end Go.Proofs.YtjjnidbggoaonaaGreatDoor
