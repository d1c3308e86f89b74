/- Seeds of labels; lists that came in. -/
import Derived.Test.YtjjnidbggoaonaaGreatDoorWoPn
import Derived.Test.YtjjnidbggoaonaaGreatDoorZaB
namespace Go.Proofs.YtjjnidbggoaonaaGreatDoor
open Go.RowKit
attribute [local irreducible] World.setCell World.alloc World.drew World.setRow Calls Code.wp
attribute [local go_sem] Oper.semAt_some

/-- A list that lies somewhere in memory. -/
def GRow (w : World) (v : Value) (n : Nat) (cells : List Value) : Prop :=
  ∃ a c, v = .slice a n c ∧ n ≤ c ∧ c ≤ maxLen ∧ (n = 0 ∨ ∃ b o, a = some ⟨b, o, none⟩ ∧ b < w.heap.size ∧ ∀ (j : Nat) (u : Value), cells[j]? = some u → w.cell? ⟨b, o + j, none⟩ = some u)
theorem GRow.below {w w' : World} {v : Value} {n : Nat} {cells : List Value} (h : GRow w v n cells) {B : Nat} (hb : Below B w w') (hB : w.heap.size ≤ B) : GRow w' v n cells := by
  obtain ⟨a, c, rfl, h1, h2, h3⟩ := h
  refine ⟨a, c, rfl, h1, h2, h3.imp id ?_⟩
  rintro ⟨b, o, rfl, hlt, hc⟩
  exact ⟨b, o, rfl, Nat.lt_of_lt_of_le hlt hb.size, fun j u hu => by rw [hb.cell (p := ⟨b, o + j, none⟩) (Nat.lt_of_lt_of_le hlt hB)]; exact hc j u hu⟩
theorem GRow.form {w : World} {v : Value} {n : Nat} {cells : List Value} (h : GRow w v n cells) : ∃ a c, v = .slice a n c ∧ n ≤ c ∧ c ≤ maxLen := by
  obtain ⟨a, c, e, h1, h2, _⟩ := h
  exact ⟨a, c, e, h1, h2⟩
theorem GRow.cells {w : World} {n : Nat} {a : Option Addr} {c : Nat} {cells : List Value} (h : GRow w (.slice a n c) n cells) (hn : 0 < n) : ∃ b o, a = some ⟨b, o, none⟩ ∧ b < w.heap.size ∧ ∀ (j : Nat) (u : Value), cells[j]? = some u → w.cell? ⟨b, o + j, none⟩ = some u := by
  obtain ⟨a', c', e, _, _, h3⟩ := h
  cases e
  exact h3.resolve_left (by omega)
/-- Any list's cells, appended to nothing. -/
theorem gappend_nil {w : World} (T E : TypeId) (ty : TypeId) (i : TypeInfo) (z : Value) (size bytes : Nat) (ht : Tryz.prog.underlying T = some (.slice E)) (hi : Tryz.prog.info? E = some i) (hz : i.zero = some z) (hs : i.size = size) (hby : i.bytes = bytes) (hzs : z.cells.size = size) (h0 : 0 < size) {v : Value} {n : Nat} {cells : List Value} (h : GRow w v n cells) (hl : cells.length = n * size) (h1 : ∀ u ∈ cells, u.oneCell' = true) (hn : n ≤ 100000) (hb8 : bytes ≤ 1000) (base : Nat) (hbase : base ≤ w.heap.size) :
    ∃ v' w', (Builtin.append_ #[T, T] ty #[.slice none 0 0, v]).run Tryz.prog w = .ok v' w' ∧ w'.ownsRow base E size v' n cells ∧ Below w.heap.size w w' := by
  obtain ⟨A, c, rfl, hc1, hc2, hc3⟩ := h
  have hbm : n * bytes ≤ 140737488355328 := Nat.le_trans (Nat.mul_le_mul hn hb8) (by decide)
  cases A with
  | none =>
    have hn0 : n = 0 := hc3.resolve_right (by rintro ⟨b, o, e, _⟩; cases e)
    subst hn0
    obtain rfl : cells = [] := List.length_eq_zero_iff.1 (by rw [hl, Nat.zero_mul])
    refine ⟨.slice none 0 0, w, ?_, World.ownsRow_nil _ _ _ _, Below.refl _ _⟩
    simp [Builtin.append_, run_underlying ht, sizeOf, typeInfo, hi, Builtin.lenOf, Builtin.firstCells]
  | some ad =>
    have hcl : ∀ j u, cells[j]? = some u → w.cell? (ad.add j) = some u := fun j u hu => by
      have hlt := (List.getElem?_eq_some_iff.1 hu).1
      obtain ⟨b, o, e, -, hc⟩ := hc3.resolve_left (fun e => by rw [hl, e, Nat.zero_mul] at hlt; omega)
      cases e
      rw [Addr.add_lit]
      exact hc j u hu
    obtain ⟨v', w', e1, e2, e3, _⟩ := run_append_own (P := Tryz.prog) w base T ty E i z size bytes ht hi hz hs hby hzs h0 (.slice none 0 0) 0 [] (World.ownsRow_nil _ _ _ _) ad n c cells hl hcl h1 (by unfold maxLen; omega) (by rw [Nat.zero_add]; exact hbm) hbase
    rw [Nat.zero_add, List.nil_append] at e2
    exact ⟨v', w', e1, e2, (Below.refl _ w).grown e3 (Nat.le_refl _) (fun b e => by cases e)⟩
theorem mod5 (n : Int) (_ : I64 n) : IntKind.i64.wrap (n.tmod 5 + 5) = n.tmod 5 + 5 ∧ (n.tmod 5 + 5).tmod 5 = n % 5 := by
  have h1 : -5 < n.tmod 5 ∧ n.tmod 5 < 5 := by
    constructor
    · rcases Int.le_total 0 n with h | h
      · have := Int.tmod_nonneg 5 h; omega
      · have h2 := Int.tmod_lt_of_pos (-n) (show (0 : Int) < 5 by omega)
        rw [Int.neg_tmod] at h2; omega
    · exact Int.tmod_lt_of_pos n (by omega)
  refine ⟨IntWalk.i64_in _ (by omega), ?_⟩
  rw [Int.tmod_eq_emod_of_nonneg (by omega)]
  rcases Int.le_total 0 n with h | h
  · rw [Int.tmod_eq_emod_of_nonneg h]; omega
  · have h2 : n.tmod 5 = -((-n) % 5) := by
      have := Int.neg_tmod (-n) 5
      rw [Int.neg_neg] at this
      rw [this, Int.tmod_eq_emod_of_nonneg (by omega)]
    rw [h2]; omega
/-- The pairs so far. -/
structure SeedSt (d : Int) (ls : List Int) (k : Nat) (ps : List (Nat × Nat)) : Prop where
  eq : seedPs d 0 ls = ps ++ seedPs d k (ls.drop k)
  ln : ps.length ≤ k ∧ ps.length ≤ 12
theorem SeedSt.skip {d : Int} {ls : List Int} {k : Nat} {ps : List (Nat × Nat)} (h : SeedSt d ls k ps) {n : Int} (hn : ls[k]? = some n) (hc : ¬ (k < 12 ∧ n % 5 ≠ d)) : SeedSt d ls (k + 1) ps := by
  refine ⟨?_, ⟨by have := h.ln.1; omega, h.ln.2⟩⟩
  rw [h.eq, drop_at hn]
  conv => lhs; unfold seedPs
  rw [if_neg hc, List.nil_append]
theorem SeedSt.add {d : Int} {ls : List Int} {k : Nat} {ps : List (Nat × Nat)} (h : SeedSt d ls k ps) {n : Int} (hn : ls[k]? = some n) (hc : k < 12 ∧ n % 5 ≠ d) : SeedSt d ls (k + 1) (ps ++ [(3 * k + 1, (n % 5).toNat)]) := by
  refine ⟨?_, ?_⟩
  · rw [h.eq, drop_at hn]
    conv => lhs; unfold seedPs
    rw [if_pos hc]
    simp
  · have := h.ln.1
    rw [List.length_append, List.length_singleton]
    omega
set_option maxRecDepth 100000 in
set_option maxHeartbeats 4000000 in
theorem lseed_any (s : LSeed) (sv : Value) (w : World) (hv : GRow w sv s.ls.length (s.ls.map (Value.int .i64))) (hls : ∀ n ∈ s.ls, I64 n) :
    Calls Tryz.prog 45 #[.agg #[.int .i64 s.d, sv]] w fun e w' => ∃ a c, e = .returned (.agg #[.int .i64 (s.lab.d : Nat), .slice a s.lab.ps.length c]) ∧ PairsIn w' (.slice a s.lab.ps.length c) s.lab.ps ∧ Below w.heap.size w w' := by
  obtain ⟨la, lc, rfl, hc1, hc2⟩ := hv.form
  unfold maxLen at hc2
  have hlm : s.ls.length ≤ 9223372036854775807 := by omega
  obtain ⟨d, hd⟩ : ∃ d : Nat, s.d % 4 + 1 = (d : Int) := ⟨(s.d % 4 + 1).toNat, by omega⟩
  have hd4 : 1 ≤ d ∧ d ≤ 4 := by omega
  have hdl : s.lab = ⟨d, seedPs (d : Int) 0 s.ls⟩ := by unfold LSeed.lab; rw [hd]; rfl
  have HDl := Lib.hid hdl
  have h3 : bits .and .i64 s.d 3 = s.d % 4 := and3 s.d
  have hw1 : IntKind.i64.wrap (s.d % 4 + 1) = (d : Int) := by rw [hd]; exact IntWalk.i64_in _ (by omega)
  obtain ⟨xb, hxb⟩ : ∃ xb, xb = w.heap.size := ⟨_, rfl⟩
  obtain ⟨w1, hw1'⟩ : ∃ w1 : World, w1 = ((w.alloc (.cells #[.int .i64 s.d, .slice la s.ls.length lc] 98)).alloc (.cells #[.int .i64 0, .slice none 0 0] 104)).alloc (.cells #[.int .i64 (d : Nat), .slice none 0 0] 104) := ⟨_, rfl⟩
  have HXs : Hid (Blk w1 xb #[.int .i64 s.d, .slice la s.ls.length lc] 98) := by rw [hw1', hxb]; exact ((Blk.new _ _ _).alloc _).alloc _
  have HXr : Hid (Blk w1 (xb + 1) #[.int .i64 0, .slice none 0 0] 104) := by
    rw [hw1', hxb]
    have := Blk.new (w.alloc (.cells #[.int .i64 s.d, .slice la s.ls.length lc] 98)) #[.int .i64 0, .slice none 0 0] 104
    rw [World.size_alloc] at this
    exact this.alloc _
  have HXl : Hid (Blk w1 (xb + 1 + 1) #[.int .i64 (d : Nat), .slice none 0 0] 104) := by
    rw [hw1', hxb]
    have := Blk.new ((w.alloc (.cells #[.int .i64 s.d, .slice la s.ls.length lc] 98)).alloc (.cells #[.int .i64 0, .slice none 0 0] 104)) #[.int .i64 (d : Nat), .slice none 0 0] 104
    rw [World.size_alloc, World.size_alloc] at this
    exact this
  have HB1 : Hid (Below w.heap.size w w1) := by rw [hw1']; exact (((Below.refl _ w).alloc (Nat.le_refl _) _).alloc (by rw [World.size_alloc]; omega) _).alloc (by rw [World.size_alloc, World.size_alloc]; omega) _
  have HG := Lib.hid (fun w' (k : Below w.heap.size w w') => hv.below k (Nat.le_refl _))
  have Hls := Lib.hid hls
  obtain ⟨i0, hi0, hz0, hz1, hz2⟩ := info_parts info_pair
  have Hi0 := Lib.hid hi0; have Hz0 := Lib.hid hz0; have Hz1 := Lib.hid hz1; have Hz2 := Lib.hid hz2
  clear hv hls hi0 hz0 hz1 hz2 hdl hd
  go_enter Tryz.func45, Tryz.ntmps45
  go_upto_region 2 with fail
  rw [← hw1', ← hxb]
  have Hxb := Lib.hid hxb
  have hcs := HXs.out.cell
  clear hw1' hxb
  go_wp2_with fail
  go_loopg [4, 5, 14] s.ls.length (fun g _ _ vi wx => ∃ (k : Nat) (ps : List (Nat × Nat)) (A : Value), k + g = s.ls.length ∧ vi = .int .i64 k ∧ Hid (SeedSt (d : Int) s.ls k ps) ∧ Hid (Blk wx (xb + 1 + 1) #[.int .i64 (d : Nat), A] 104) ∧ Hid (wx.ownsRow w.heap.size 144 2 A ps.length (ps.flatMap pairV)) ∧ Hid (Blk wx (xb + 1) #[.int .i64 0, .slice none 0 0] 104) ∧ Hid (Below w.heap.size w wx))
  case atStart => exact ⟨0, [], .slice none 0 0, by omega, rfl, Lib.hid ⟨rfl, by simp⟩, HXl, Lib.hid (World.ownsRow_nil _ _ _ _), HXr, HB1⟩
  case round =>
    obtain ⟨k, ps, A, hk, rfl, HS, HL, HA, HR, HB⟩ := hrel
    obtain ⟨pa, pc, rfl, -, -⟩ := RowAt.form (RowAt.own HA.out)
    clear hcs
    by_cases hlt : k < s.ls.length
    · have hlt' : (k : Int) < s.ls.length := by omega
      obtain ⟨n, hn⟩ : ∃ n, s.ls[k]? = some n := ⟨_, List.getElem?_eq_getElem hlt⟩
      obtain ⟨b, o, rfl, -, hc⟩ := (HG.out wr HB.out).cells (by omega)
      have hcn : wr.cell? ⟨b, o + k, none⟩ = some (.int .i64 n) := hc k _ (by rw [List.getElem?_map, hn]; rfl)
      have hni := Hls.out n (List.mem_of_getElem? hn)
      obtain ⟨m1, m2⟩ := mod5 n hni
      have hl0 := HL.out.cell
      have hlf := HL.out.free
      have HSk := Lib.hid (fun hc => HS.out.skip hn hc)
      have HSa := Lib.hid (fun hc => HS.out.add hn hc)
      have hln := HS.out.ln
      obtain ⟨y, hy⟩ : ∃ y : Nat, n % 5 = (y : Int) := ⟨(n % 5).toNat, by omega⟩
      rw [hy] at m2 HSk HSa
      clear hc hn hy
      by_cases c12 : k < 12
      · have c12' : (k : Int) < 12 := by omega
        by_cases cd : y = d
        · have cdb : ((y : Int) != (d : Int)) = false := by simp [cd]
          have HSn := Lib.hid (HSk.out (fun h => h.2 (by rw [cd])))
          clear cd
          go_wp2_with fail
          go_roundg (s.ls.length - (k + 1))
          case measure => omega
          case rel => exact ⟨k + 1, ps, _, by omega, by go_num, HSn, HL, HA, HR, HB⟩
        · have cdb : ((y : Int) != (d : Int)) = true := by simp; omega
          have HSn := Lib.hid (HSa.out ⟨c12, fun h => cd (by omega)⟩)
          rw [Int.toNat_natCast] at HSn
          have e1 : IntKind.i64.wrap (3 * (k : Int)) = 3 * k := IntWalk.i64_in _ (by omega)
          have e2 : IntKind.i64.wrap (3 * (k : Int) + 1) = 3 * k + 1 := IntWalk.i64_in _ (by omega)
          have e3 : IntKind.u32.wrap (3 * (k : Int) + 1) = ((3 * k + 1 : Nat) : Int) := by rw [IntWalk.u32_in _ (by omega)]; omega
          clear cd
          go_wp2_with (at_builtin; (refine wpList_append_lies _ rfl _ _ 102 rfl w.heap.size 144 i0 _ 2 16 Tryz.underlying102 Hi0.out Hz0.out Hz1.out Hz2.out rfl (by decide) _ ps.length (ps.flatMap pairV) rfl (HA.out.alloc _) ⟨wr.heap.size, 0, none⟩ 1 1 (pairV (3 * k + 1, y)) rfl rfl (World.news_of_block (Blk.new wr #[.int .u32 ((3 * k + 1 : Nat) : Int), .int .i64 (y : Nat)] 144)) (fun u hu => by simp [pairV] at hu; rcases hu with rfl | rfl <;> rfl) (by omega) (by unfold maxLen; omega) (by omega) (by rw [World.size_alloc]; have := HB.out.size; omega) _ rfl ?_; intro g6 cap w6 hown6 hgrow6 _ _; have hL6 := blk_far (HL.out.alloc _) (kept_grown hgrow6) (row_T (HA.out.alloc _)) (by decide); have hc6 : w6.cell? ⟨xb + 1 + 1, 1, none⟩ = some (.slice pa ps.length pc) := (hL6.cell 1).trans rfl; have hf6 : w6.frozen? ⟨xb + 1 + 1, 1, none⟩ = false := hL6.free 1))
          have kc : Kept (· = xb + 1 + 1) w6 (w6.setCell ⟨xb + 1 + 1, 1, none⟩ (.slice (some ⟨g6, 0, none⟩) (ps.length + 1) cap)) := (Kept.refl (· = xb + 1 + 1) w6).setIn (xb + 1 + 1) 1 _ rfl
          have HLn : Hid (Blk (w6.setCell ⟨xb + 1 + 1, 1, none⟩ (.slice (some ⟨g6, 0, none⟩) (ps.length + 1) cap)) (xb + 1 + 1) #[.int .i64 (d : Nat), .slice (some ⟨g6, 0, none⟩) (ps.length + 1) cap] 104) := (hL6.set 1 _).cells rfl
          have HAn : Hid ((w6.setCell ⟨xb + 1 + 1, 1, none⟩ (.slice (some ⟨g6, 0, none⟩) (ps.length + 1) cap)).ownsRow w.heap.size 144 2 (.slice (some ⟨g6, 0, none⟩) (ps.length + 1) cap) (ps ++ [(3 * k + 1, y)]).length ((ps ++ [(3 * k + 1, y)]).flatMap pairV)) := by
            have h1 := row_far hown6 kc (blk_T hL6) (by decide)
            rw [List.length_append, List.flatMap_append]
            exact h1
          have HRn := Lib.hid ((blk_far (HR.out.alloc _) (kept_grown hgrow6) (row_T (HA.out.alloc _)) (by decide)).below' kc (by omega))
          have HBn : Hid (Below w.heap.size w (w6.setCell ⟨xb + 1 + 1, 1, none⟩ (.slice (some ⟨g6, 0, none⟩) (ps.length + 1) cap))) := ((HB.out.alloc HB.out.size _).grown hgrow6 (by rw [World.size_alloc]; have := HB.out.size; omega) (fun b e => (HA.out.lt b e).1)).setCell (p := ⟨xb + 1 + 1, 1, none⟩) (by have := Hxb.out; show _ ≤ xb + 1 + 1; omega) _
          clear hL6 hc6 hf6 hown6 hgrow6 kc
          go_roundg (s.ls.length - (k + 1))
          case measure => omega
          case rel => exact ⟨k + 1, _, _, by omega, by go_num, HSn, HLn, HAn, HRn, HBn⟩
      · have c12' : ¬ (k : Int) < 12 := by omega
        have HSn := Lib.hid (HSk.out (fun h => c12 h.1))
        go_wp2_with fail
        go_roundg (s.ls.length - (k + 1))
        case measure => omega
        case rel => exact ⟨k + 1, ps, _, by omega, by go_num, HSn, HL, HA, HR, HB⟩
    · obtain rfl : k = s.ls.length := by omega
      have hE := HS.out.eq
      rw [List.drop_length] at hE
      have hE2 : seedPs (d : Int) 0 s.ls = ps := by rw [hE]; exact List.append_nil _
      have HE : Hid (s.lab = ⟨d, ps⟩) := by show _ = _; rw [HDl.out, hE2]
      have hl0 := HL.out.cell
      have hr0 := HR.out.cell
      have hrf := HR.out.free
      have HF : Hid (Blk ((wr.setCell ⟨xb + 1, 0, none⟩ (.int .i64 (d : Nat))).setCell ⟨xb + 1, 1, none⟩ (.slice pa ps.length pc)) (xb + 1) #[.int .i64 (d : Nat), .slice pa ps.length pc] 104) := ((HR.out.set 0 _).set 1 _).cells rfl
      have kc : Kept (· = xb + 1) wr ((wr.setCell ⟨xb + 1, 0, none⟩ (.int .i64 (d : Nat))).setCell ⟨xb + 1, 1, none⟩ (.slice pa ps.length pc)) := ((Kept.refl (· = xb + 1) wr).setIn (xb + 1) 0 _ rfl).setIn (xb + 1) 1 _ rfl
      have HPf : Hid (PairsIn ((wr.setCell ⟨xb + 1, 0, none⟩ (.int .i64 (d : Nat))).setCell ⟨xb + 1, 1, none⟩ (.slice pa ps.length pc)) (.slice pa ps.length pc) ps) := rowat_far (RowAt.own HA.out) kc (blk_T HR.out) (by decide)
      have HBf : Hid (Below w.heap.size w ((wr.setCell ⟨xb + 1, 0, none⟩ (.int .i64 (d : Nat))).setCell ⟨xb + 1, 1, none⟩ (.slice pa ps.length pc))) := (HB.out.setCell (p := ⟨xb + 1, 0, none⟩) (by have := Hxb.out; show _ ≤ xb + 1; omega) _).setCell (p := ⟨xb + 1, 1, none⟩) (by have := Hxb.out; show _ ≤ xb + 1; omega) _
      clear hE hE2 kc
      go_wp2_with fail
      first
      | refine bodyPost_ret (results_cell_row rfl _ _ (xb + 1) _ _ (0, 0) _ rfl HF.out Tryz.underlying104 rfl (by kernel_rfl)) rfl ?_
      | refine bodyPost_end (results_cell_row rfl _ _ (xb + 1) _ _ (0, 0) _ rfl HF.out Tryz.underlying104 rfl (by kernel_rfl)) rfl ?_
      rw [HE.out]
      exact ⟨_, _, rfl, HPf.out, HBf.out⟩
end Go.Proofs.YtjjnidbggoaonaaGreatDoor
