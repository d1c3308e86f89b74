/- Of the proof of this claim: a joined text. -/
import Derived.Test.YtmlcgebahdcmaaaGreatDoorZzNd
import Derived.Test.YtmlcgebahdcmaaaGreatDoorZzWoPt
import Derived.Test.YtmlcgebahdcmaaaGreatDoorZzLib
set_option maxRecDepth 100000
set_option maxHeartbeats 4000000
namespace Go.Proofs.YtmlcgebahdcmaaaGreatDoor
open Go.RowKit
attribute [local irreducible] World.setCell World.alloc World.drew World.setRow Calls Code.wp
attribute [local go_sem] Oper.semAt_some
theorem row_far {w w' : World} {base e size n : Nat} {v : Value} {xs : List Value} (h : w.ownsRow base e size v n xs) {T : Nat -> Prop} {ty : TypeId} (k : Kept T w w') (hT : ∀ b, T b -> ∃ cs fz, w.heap[b]? = some (.cells cs ty fz)) (hne : ty ≠ e) : w'.ownsRow base e size v n xs :=
 row_kept h k (fun b hb ht => by
  obtain ⟨cur, e1, -⟩ := row_type h hb
  obtain ⟨cs, fz, e2⟩ := hT b ht
  rw [e1] at e2
  simp only [Option.some.injEq, Obj.cells.injEq] at e2
  exact hne e2.2.1.symm)
theorem blk_far {w w' : World} {b ty : Nat} {cs : Array Value} (h : Blk w b cs ty) {T : Nat -> Prop} {ty2 : TypeId} (k : Kept T w w') (hT : ∀ b, T b -> ∃ cs fz, w.heap[b]? = some (.cells cs ty2 fz)) (hne : ty2 ≠ ty) : Blk w' b cs ty :=
 h.below' k (fun ht => by
  obtain ⟨cs', fz, e2⟩ := hT b ht
  unfold Blk at h
  rw [h] at e2
  simp only [Option.some.injEq, Obj.cells.injEq] at e2
  exact hne e2.2.1.symm)
theorem rowat_far {w w' : World} {ty n : Nat} {v : Value} {cells : List Value} (h : RowAt w ty v n cells) {T : Nat -> Prop} {ty2 : TypeId} (k : Kept T w w') (hT : ∀ b, T b -> ∃ cs fz, w.heap[b]? = some (.cells cs ty2 fz)) (hne : ty2 ≠ ty) : RowAt w' ty v n cells :=
 RowAt.kept h k (fun b cs fz ht hh => by
  obtain ⟨cs', fz', e2⟩ := hT b ht
  rw [hh] at e2
  simp only [Option.some.injEq, Obj.cells.injEq] at e2
  exact hne e2.2.1.symm)
theorem blk_T {w : World} {b ty : Nat} {cs : Array Value} (h : Blk w b cs ty) : ∀ b', b' = b -> ∃ cs fz, w.heap[b']? = some (.cells cs ty fz) := fun b' e => by
 subst e
 exact ⟨cs, _, h⟩
theorem row_T {w : World} {base e size n : Nat} {v : Value} {xs : List Value} (h : w.ownsRow base e size v n xs) : ∀ b', v.ownBlock = some b' -> ∃ cs fz, w.heap[b']? = some (.cells cs e fz) := fun b' hb => by
 obtain ⟨cur, e1, -⟩ := row_type h hb
 exact ⟨_, _, e1⟩
def GRow (w : World) (v : Value) (n : Nat) (cells : List Value) : Prop :=
 ∃ a c, v = .slice a n c /\ n <= c /\ c <= maxLen /\ (n = 0 \/ ∃ b o, a = some ⟨b, o, none⟩ /\ b < w.heap.size /\ ∀ (j : Nat) (u : Value), cells[j]? = some u -> w.cell? ⟨b, o + j, none⟩ = some u)
theorem GRow.below {w w' : World} {v : Value} {n : Nat} {cells : List Value} (h : GRow w v n cells) {B : Nat} (hb : Below B w w') (hB : w.heap.size <= B) : GRow w' v n cells := by
 obtain ⟨a, c, rfl, h1, h2, h3⟩ := h
 refine ⟨a, c, rfl, h1, h2, h3.imp id ?_⟩
 rintro ⟨b, o, rfl, hlt, hc⟩
 exact ⟨b, o, rfl, Nat.lt_of_lt_of_le hlt hb.size, fun j u hu => by rw [hb.cell (p := ⟨b, o + j, none⟩) (Nat.lt_of_lt_of_le hlt hB)]; exact hc j u hu⟩
theorem GRow.form {w : World} {v : Value} {n : Nat} {cells : List Value} (h : GRow w v n cells) : ∃ a c, v = .slice a n c /\ n <= c /\ c <= maxLen := by
 obtain ⟨a, c, e, h1, h2, _⟩ := h
 exact ⟨a, c, e, h1, h2⟩
theorem GRow.cells {w : World} {n : Nat} {a : Option Addr} {c : Nat} {cells : List Value} (h : GRow w (.slice a n c) n cells) (hn : 0 < n) : ∃ b o, a = some ⟨b, o, none⟩ /\ b < w.heap.size /\ ∀ (j : Nat) (u : Value), cells[j]? = some u -> w.cell? ⟨b, o + j, none⟩ = some u := by
 obtain ⟨a', c', e, _, _, h3⟩ := h
 cases e
 exact h3.resolve_left (by omega)
theorem mod5 (n : Int) (_ : I64 n) : IntKind.i64.wrap (n.tmod 5 + 5) = n.tmod 5 + 5 /\ (n.tmod 5 + 5).tmod 5 = n % 5 := by
 have h1 : -5 < n.tmod 5 /\ n.tmod 5 < 5 := by
  constructor
  ·rcases Int.le_total 0 n with h | h
   ·have := Int.tmod_nonneg 5 h; omega
   ·have h2 := Int.tmod_lt_of_pos (-n) (show (0 : Int) < 5 by omega)
    rw [Int.neg_tmod] at h2; omega
  ·exact Int.tmod_lt_of_pos n (by omega)
 refine ⟨IntWalk.i64_in _ (by omega), ?_⟩
 rw [Int.tmod_eq_emod_of_nonneg (by omega)]
 rcases Int.le_total 0 n with h | h
 ·rw [Int.tmod_eq_emod_of_nonneg h]; omega
 ·have h2 : n.tmod 5 = -((-n) % 5) := by
   have := Int.neg_tmod (-n) 5
   rw [Int.neg_neg] at this
   rw [this, Int.tmod_eq_emod_of_nonneg (by omega)]
  rw [h2]; omega
structure SeedSt (d : Int) (ls : List Int) (k : Nat) (ps : List (Nat × Nat)) : Prop where
 eq : seedPs d 0 ls = ps ++ seedPs d k (ls.drop k)
 ln : ps.length <= k /\ ps.length <= 12
theorem SeedSt.skip {d : Int} {ls : List Int} {k : Nat} {ps : List (Nat × Nat)} (h : SeedSt d ls k ps) {n : Int} (hn : ls[k]? = some n) (hc : ¬ (k < 12 /\ n % 5 ≠ d)) : SeedSt d ls (k + 1) ps := by
 refine ⟨?_, ⟨by have := h.ln.1; omega, h.ln.2⟩⟩
 rw [h.eq, drop_at hn]
 conv => lhs; unfold seedPs
 rw [if_neg hc, List.nil_append]
theorem SeedSt.add {d : Int} {ls : List Int} {k : Nat} {ps : List (Nat × Nat)} (h : SeedSt d ls k ps) {n : Int} (hn : ls[k]? = some n) (hc : k < 12 /\ n % 5 ≠ d) : SeedSt d ls (k + 1) (ps ++ [(3 * k + 1, (n % 5).toNat)]) := by
 refine ⟨?_, ?_⟩
 ·rw [h.eq, drop_at hn]
  conv => lhs; unfold seedPs
  rw [if_pos hc]
  simp
 ·have := h.ln.1
  rw [List.length_append, List.length_singleton]
  omega
theorem lseed_any (s : LSeed) (sv : Value) (w : World) (hv : GRow w sv s.ls.length (s.ls.map (Value.int .i64))) (hls : ∀ n ∈ s.ls, I64 n) :
  Calls Tryz.prog 30 #[.agg #[.int .i64 s.d, sv]] w fun e w' => ∃ a c, e = .returned (.agg #[.int .i64 (s.lab.d : Nat), .slice a s.lab.ps.length c]) /\ PairsIn w' (.slice a s.lab.ps.length c) s.lab.ps /\ Below w.heap.size w w' := by
 obtain ⟨la, lc, rfl, hc1, hc2⟩ := hv.form
 unfold maxLen at hc2
 have hlm : s.ls.length <= 9223372036854775807 := by omega
 obtain ⟨d, hd⟩ : ∃ d : Nat, s.d % 4 + 1 = (d : Int) := ⟨(s.d % 4 + 1).toNat, by omega⟩
 have hd4 : 1 <= d /\ d <= 4 := by omega
 have hdl : s.lab = ⟨d, seedPs (d : Int) 0 s.ls⟩ := by unfold LSeed.lab; rw [hd]; rfl
 have HDl := Lib.hid hdl
 have h3 : bits .and .i64 s.d 3 = s.d % 4 := and3 s.d
 have hw1 : IntKind.i64.wrap (s.d % 4 + 1) = (d : Int) := by rw [hd]; exact IntWalk.i64_in _ (by omega)
 obtain ⟨xb, hxb⟩ : ∃ xb, xb = w.heap.size := ⟨_, rfl⟩
 obtain ⟨w1, hw1'⟩ : ∃ w1 : World, w1 = ((w.alloc (.cells #[.int .i64 s.d, .slice la s.ls.length lc] 28)).alloc (.cells #[.int .i64 0, .slice none 0 0] 72)).alloc (.cells #[.int .i64 (d : Nat), .slice none 0 0] 72) := ⟨_, rfl⟩
 have HXs : Hid (Blk w1 xb #[.int .i64 s.d, .slice la s.ls.length lc] 28) := by rw [hw1', hxb]; exact ((Blk.new _ _ _).alloc _).alloc _
 have HXr : Hid (Blk w1 (xb + 1) #[.int .i64 0, .slice none 0 0] 72) := by
  rw [hw1', hxb]
  have := Blk.new (w.alloc (.cells #[.int .i64 s.d, .slice la s.ls.length lc] 28)) #[.int .i64 0, .slice none 0 0] 72
  rw [World.size_alloc] at this
  exact this.alloc _
 have HXl : Hid (Blk w1 (xb + 1 + 1) #[.int .i64 (d : Nat), .slice none 0 0] 72) := by
  rw [hw1', hxb]
  have := Blk.new ((w.alloc (.cells #[.int .i64 s.d, .slice la s.ls.length lc] 28)).alloc (.cells #[.int .i64 0, .slice none 0 0] 72)) #[.int .i64 (d : Nat), .slice none 0 0] 72
  rw [World.size_alloc, World.size_alloc] at this
  exact this
 have HB1 : Hid (Below w.heap.size w w1) := by rw [hw1']; exact (((Below.refl _ w).alloc (Nat.le_refl _) _).alloc (by rw [World.size_alloc]; omega) _).alloc (by rw [World.size_alloc, World.size_alloc]; omega) _
 have HG := Lib.hid (fun w' (k : Below w.heap.size w w') => hv.below k (Nat.le_refl _))
 have Hls := Lib.hid hls
 obtain ⟨i0, hi0, hz0, hz1, hz2⟩ := info_parts info_pair'
 have Hi0 := Lib.hid hi0; have Hz0 := Lib.hid hz0; have Hz1 := Lib.hid hz1; have Hz2 := Lib.hid hz2
 clear hv hls hi0 hz0 hz1 hz2 hdl hd
 go_enter Tryz.func30, Tryz.ntmps30
 go_upto_region 2 with fail
 rw [<- hw1', <- hxb]
 have Hxb := Lib.hid hxb
 have hcs := HXs.out.cell
 clear hw1' hxb
 go_wp2_with fail
 go_loopg [4, 5, 14] s.ls.length (fun g _ _ vi wx => ∃ (k : Nat) (ps : List (Nat × Nat)) (A : Value), k + g = s.ls.length /\ vi = .int .i64 k /\ Hid (SeedSt (d : Int) s.ls k ps) /\ Hid (Blk wx (xb + 1 + 1) #[.int .i64 (d : Nat), A] 72) /\ Hid (wx.ownsRow w.heap.size 149 2 A ps.length (ps.flatMap pairV)) /\ Hid (Blk wx (xb + 1) #[.int .i64 0, .slice none 0 0] 72) /\ Hid (Below w.heap.size w wx))
 case atStart => exact ⟨0, [], .slice none 0 0, by omega, rfl, Lib.hid ⟨rfl, by simp⟩, HXl, Lib.hid (World.ownsRow_nil _ _ _ _), HXr, HB1⟩
 case round =>
  obtain ⟨k, ps, A, hk, rfl, HS, HL, HA, HR, HB⟩ := hrel
  obtain ⟨pa, pc, rfl, -, -⟩ := RowAt.form (RowAt.own HA.out)
  clear hcs
  by_cases hlt : k < s.ls.length
  ·have hlt' : (k : Int) < s.ls.length := by omega
   obtain ⟨n, hn⟩ : ∃ n, s.ls[k]? = some n := ⟨_, List.getElem?_eq_getElem hlt⟩
   obtain ⟨b, o, rfl, -, hc⟩ := (HG.out wr HB.out).cells (by omega)
   have hcn : wr.cell? ⟨b, o + k, none⟩ = some (.int .i64 n) := hc k _ (by rw [List.getElem?_map, hn]; rfl)
   have hni := Hls.out n (List.mem_of_getElem? hn)
   obtain ⟨m1, m2⟩ := mod5 n hni
   have hl0 := HL.out.cell
   have hlf := HL.out.free
   have HSk := Lib.hid (fun hc => HS.out.skip hn hc)
   have HSa := Lib.hid (fun hc => HS.out.add hn hc)
   have hln := HS.out.ln
   obtain ⟨y, hy⟩ : ∃ y : Nat, n % 5 = (y : Int) := ⟨(n % 5).toNat, by omega⟩
   rw [hy] at m2 HSk HSa
   clear hc hn hy
   by_cases c12 : k < 12
   ·have c12' : (k : Int) < 12 := by omega
    by_cases cd : y = d
    ·have cdb : ((y : Int) != (d : Int)) = false := by simp [cd]
     have HSn := Lib.hid (HSk.out (fun h => h.2 (by rw [cd])))
     clear cd
     go_wp2_with fail
     go_roundg (s.ls.length - (k + 1))
     case measure => omega
     case rel => exact ⟨k + 1, ps, _, by omega, by go_num, HSn, HL, HA, HR, HB⟩
    ·have cdb : ((y : Int) != (d : Int)) = true := by simp; omega
     have HSn := Lib.hid (HSa.out ⟨c12, fun h => cd (by omega)⟩)
     rw [Int.toNat_natCast] at HSn
     have e1 : IntKind.i64.wrap (3 * (k : Int)) = 3 * k := IntWalk.i64_in _ (by omega)
     have e2 : IntKind.i64.wrap (3 * (k : Int) + 1) = 3 * k + 1 := IntWalk.i64_in _ (by omega)
     have e3 : IntKind.u32.wrap (3 * (k : Int) + 1) = ((3 * k + 1 : Nat) : Int) := by rw [IntWalk.u32_in _ (by omega)]; omega
     clear cd
     go_wp2_with (at_builtin; (refine wpList_append_lies _ rfl _ _ 70 rfl w.heap.size 149 i0 _ 2 16 Tryz.underlying70 Hi0.out Hz0.out Hz1.out Hz2.out rfl (by decide) _ ps.length (ps.flatMap pairV) rfl (HA.out.alloc _) ⟨wr.heap.size, 0, none⟩ 1 1 (pairV (3 * k + 1, y)) rfl rfl (World.news_of_block (Blk.new wr #[.int .u32 ((3 * k + 1 : Nat) : Int), .int .i64 (y : Nat)] 149)) (fun u hu => by simp [pairV] at hu; rcases hu with rfl | rfl <;> rfl) (by omega) (by unfold maxLen; omega) (by omega) (by rw [World.size_alloc]; have := HB.out.size; omega) _ rfl ?_; intro g6 cap w6 hown6 hgrow6 _ _; have hL6 := blk_far (HL.out.alloc _) (kept_grown hgrow6) (row_T (HA.out.alloc _)) (by decide); have hc6 : w6.cell? ⟨xb + 1 + 1, 1, none⟩ = some (.slice pa ps.length pc) := (hL6.cell 1).trans rfl; have hf6 : w6.frozen? ⟨xb + 1 + 1, 1, none⟩ = false := hL6.free 1))
     have kc : Kept (· = xb + 1 + 1) w6 (w6.setCell ⟨xb + 1 + 1, 1, none⟩ (.slice (some ⟨g6, 0, none⟩) (ps.length + 1) cap)) := (Kept.refl (· = xb + 1 + 1) w6).setIn (xb + 1 + 1) 1 _ rfl
     have HLn : Hid (Blk (w6.setCell ⟨xb + 1 + 1, 1, none⟩ (.slice (some ⟨g6, 0, none⟩) (ps.length + 1) cap)) (xb + 1 + 1) #[.int .i64 (d : Nat), .slice (some ⟨g6, 0, none⟩) (ps.length + 1) cap] 72) := (hL6.set 1 _).cells rfl
     have HAn : Hid ((w6.setCell ⟨xb + 1 + 1, 1, none⟩ (.slice (some ⟨g6, 0, none⟩) (ps.length + 1) cap)).ownsRow w.heap.size 149 2 (.slice (some ⟨g6, 0, none⟩) (ps.length + 1) cap) (ps ++ [(3 * k + 1, y)]).length ((ps ++ [(3 * k + 1, y)]).flatMap pairV)) := by
      have h1 := row_far hown6 kc (blk_T hL6) (by decide)
      rw [List.length_append, List.flatMap_append]
      exact h1
     have HRn := Lib.hid ((blk_far (HR.out.alloc _) (kept_grown hgrow6) (row_T (HA.out.alloc _)) (by decide)).below' kc (by omega))
     have HBn : Hid (Below w.heap.size w (w6.setCell ⟨xb + 1 + 1, 1, none⟩ (.slice (some ⟨g6, 0, none⟩) (ps.length + 1) cap))) := ((HB.out.alloc HB.out.size _).grown hgrow6 (by rw [World.size_alloc]; have := HB.out.size; omega) (fun b e => (HA.out.lt b e).1)).setCell (p := ⟨xb + 1 + 1, 1, none⟩) (by have := Hxb.out; show _ <= xb + 1 + 1; omega) _
     clear hL6 hc6 hf6 hown6 hgrow6 kc
     go_roundg (s.ls.length - (k + 1))
     case measure => omega
     case rel => exact ⟨k + 1, _, _, by omega, by go_num, HSn, HLn, HAn, HRn, HBn⟩
   ·have c12' : ¬ (k : Int) < 12 := by omega
    have HSn := Lib.hid (HSk.out (fun h => c12 h.1))
    go_wp2_with fail
    go_roundg (s.ls.length - (k + 1))
    case measure => omega
    case rel => exact ⟨k + 1, ps, _, by omega, by go_num, HSn, HL, HA, HR, HB⟩
  ·obtain rfl : k = s.ls.length := by omega
   have hE := HS.out.eq
   rw [List.drop_length] at hE
   have hE2 : seedPs (d : Int) 0 s.ls = ps := by rw [hE]; exact List.append_nil _
   have HE : Hid (s.lab = ⟨d, ps⟩) := by show _ = _; rw [HDl.out, hE2]
   have hl0 := HL.out.cell
   have hr0 := HR.out.cell
   have hrf := HR.out.free
   have HF : Hid (Blk ((wr.setCell ⟨xb + 1, 0, none⟩ (.int .i64 (d : Nat))).setCell ⟨xb + 1, 1, none⟩ (.slice pa ps.length pc)) (xb + 1) #[.int .i64 (d : Nat), .slice pa ps.length pc] 72) := ((HR.out.set 0 _).set 1 _).cells rfl
   have kc : Kept (· = xb + 1) wr ((wr.setCell ⟨xb + 1, 0, none⟩ (.int .i64 (d : Nat))).setCell ⟨xb + 1, 1, none⟩ (.slice pa ps.length pc)) := ((Kept.refl (· = xb + 1) wr).setIn (xb + 1) 0 _ rfl).setIn (xb + 1) 1 _ rfl
   have HPf : Hid (PairsIn ((wr.setCell ⟨xb + 1, 0, none⟩ (.int .i64 (d : Nat))).setCell ⟨xb + 1, 1, none⟩ (.slice pa ps.length pc)) (.slice pa ps.length pc) ps) := rowat_far (RowAt.own HA.out) kc (blk_T HR.out) (by decide)
   have HBf : Hid (Below w.heap.size w ((wr.setCell ⟨xb + 1, 0, none⟩ (.int .i64 (d : Nat))).setCell ⟨xb + 1, 1, none⟩ (.slice pa ps.length pc))) := (HB.out.setCell (p := ⟨xb + 1, 0, none⟩) (by have := Hxb.out; show _ <= xb + 1; omega) _).setCell (p := ⟨xb + 1, 1, none⟩) (by have := Hxb.out; show _ <= xb + 1; omega) _
   clear hE hE2 kc
   go_wp2_with fail
   first
   | refine bodyPost_ret (results_cell_row rfl _ _ (xb + 1) _ _ (0, 0) _ rfl HF.out Tryz.underlying72 rfl (by kernel_rfl)) rfl ?_
   | refine bodyPost_end (results_cell_row rfl _ _ (xb + 1) _ _ (0, 0) _ rfl HF.out Tryz.underlying72 rfl (by kernel_rfl)) rfl ?_
   rw [HE.out]
   exact ⟨_, _, rfl, HPf.out, HBf.out⟩
end Go.Proofs.YtmlcgebahdcmaaaGreatDoor
namespace Go.Proofs.YtmlcgebahdcmaaaGreatDoor
open Go.RowKit
def labOne : Lab := ⟨2, []⟩
def labThree : Lab := ⟨4, []⟩
def labUp : Lab := ⟨2, [(1, 4)]⟩
def labOwn : Lab := ⟨2, [(1, 0)]⟩
def pad16 (l : List UInt8) : List UInt8 := l ++ List.replicate (16 - l.length) 0
def labelsB : List UInt8 := [[labOne], [labUp], [labOwn], [labThree], [labOne, labThree], [labUp, labThree], [labOwn, labThree]].flatMap (fun r => pad16 (r.flatMap labP)) ++ List.replicate 16 0
structure ProgK where
 (lines : List Line)
 (lab : Lab)
 (home : Int)
def codeU (ls : List Line) : List UInt8 := (codeB ls).map fun x => UInt8.ofNat x.toNat
def worldO (n : Int) (p : ProgK) : List WObj :=
 [{ obj0 3 with lab := p.lab, clr := labThree, parent := p.home % 2, space := n + 2 },
  { obj0 4 with lab := labOne, maps := [⟨0, n + 3, 0, 9, false⟩, ⟨32, 2, 0, 2, true⟩, ⟨34, 3, 0, 1, true⟩] },
  { obj0 2 with lab := labOne, pages := 9, data := (codeU p.lines).take 576 }]
def worldP : Int -> List ProgK -> List WObj
 | _, [] => []
 | n, p :: r => worldO n p ++ worldP (n + 3) r
def worldK (l : List ProgK) (cores : Int) : WCfg :=
 ⟨cores % 2 + 1, 600, 200, [(0, 2), (1, 1), (0, 1)],
  [{ obj0 1 with lab := labOne, pages := 120, names := 40 }, { obj0 2 with lab := labOne, pages := 2, data := labelsB }, { obj0 2 with lab := labUp, pages := 1, data := [1, 2, 3] }, { obj0 6 with lab := labUp }] ++ worldP 4 (l.take 4)⟩
def haltP : ProgK := ⟨[], labOne, 0⟩
example : (worldK [haltP] 1).right = true := by decide +kernel
example : (newK (worldK [haltP] 1)).isSome = true := by decide +kernel
def noMic : Km -> Ob -> Option (Km × Int) := fun _ _ => none
def noWt : Km -> Ob -> Nat -> Option (Km × Int) := fun _ _ _ => none
def fitE : Option (Int × Int × Int) := (newK (worldK [haltP] 1)).bind fun K => (K.pickT noMic noWt 0).map fun r => (r.2.core, r.2.thread, r.2.what)
example : fitE = some (0, 6, 1) := by decide +kernel
end Go.Proofs.YtmlcgebahdcmaaaGreatDoor
namespace Go.Proofs.YtmlcgebahdcmaaaGreatDoor
open Go.RowKit
attribute [local irreducible] World.setCell World.alloc World.drew World.setRow Calls Code.wp
structure Labs (w : World) (n b1 : Nat) (s4 s5 : Value) (W : World) : Prop where
 one : Blk W b1 #[.int .i64 2, .slice none 0 0] 72
 three : Blk W (b1 + 1) #[.int .i64 4, .slice none 0 0] 72
 p4 : PairsIn W s4 [(1, 4)]
 p5 : PairsIn W s5 [(1, 0)]
 bel : Below n w W
 le : n <= b1
theorem Labs.alloc {w W : World} {n b1 : Nat} {s4 s5 : Value} (h : Labs w n b1 s4 s5 W) (o : Obj) : Labs w n b1 s4 s5 (W.alloc o) := by
 have hb : Below W.heap.size W (W.alloc o) := (Below.refl _ W).alloc (Nat.le_refl _) o
 have h1 := h.one.lt
 have h2 := h.le
 exact ⟨h.one.alloc o, h.three.alloc o, RowAt.below h.p4 hb (Nat.le_refl _), RowAt.below h.p5 hb (Nat.le_refl _), h.bel.alloc (by omega) o, h.le⟩
theorem Labs.store {w W : World} {n b1 : Nat} {s4 s5 : Value} (h : Labs w n b1 s4 s5 W) {t : Nat} {cs : Array Value} (ht : Blk W t cs 72) (hn : b1 + 1 < t) (u v : Value) :
  Labs w n b1 s4 s5 ((W.setCell ⟨t, 0, none⟩ u).setCell ⟨t, 1, none⟩ v) := by
 have n0 : t ≠ b1 := by omega
 have n1 : t ≠ b1 + 1 := by omega
 have hk : Kept (· = t) W ((W.setCell ⟨t, 0, none⟩ u).setCell ⟨t, 1, none⟩ v) := ((Kept.refl (· = t) W).setIn t 0 u rfl).setIn t 1 v rfl
 have hs : ∀ b cs' fz, b = t -> W.heap[b]? = some (.cells cs' 149 fz) -> False := fun b cs' fz e hh => by
  rw [e] at hh
  have := hh.symm.trans ht
  simp at this
 have h2 := h.le
 exact ⟨(h.one.set_other (a := ⟨t, 0, none⟩) n0 _).set_other (a := ⟨t, 1, none⟩) n0 _, (h.three.set_other (a := ⟨t, 0, none⟩) n1 _).set_other (a := ⟨t, 1, none⟩) n1 _, RowAt.kept h.p4 hk hs, RowAt.kept h.p5 hk hs,
  (h.bel.setCell (p := ⟨t, 0, none⟩) (by show n <= t; omega) _).setCell (p := ⟨t, 1, none⟩) (by show n <= t; omega) _, h.le⟩
theorem blk_stored {W : World} {t : Nat} (ht : Blk W t #[.int .i64 0, .slice none 0 0] 72) (u v : Value) : Blk ((W.setCell ⟨t, 0, none⟩ u).setCell ⟨t, 1, none⟩ v) t #[u, v] 72 :=
 ((ht.set 0 u).set 1 v).cells (by simp only [List.setIfInBounds_toArray, List.set_cons_zero, List.set_cons_succ])
theorem blk_beside {W : World} {t t' : Nat} {cs : Array Value} {ty : Nat} (h : Blk W t' cs ty) (hn : t ≠ t') (u v : Value) : Blk ((W.setCell ⟨t, 0, none⟩ u).setCell ⟨t, 1, none⟩ v) t' cs ty :=
 (h.set_other (a := ⟨t, 0, none⟩) hn _).set_other (a := ⟨t, 1, none⟩) hn _
structure Four (w : World) (n b1 b3 b4 : Nat) (s4 s5 : Value) (W : World) : Prop where
 labs : Labs w n b1 s4 s5 W
 up : Blk W b3 #[.int .i64 2, s4] 72
 own : Blk W b4 #[.int .i64 2, s5] 72
section
variable {w W : World} {n b1 : Nat} {s4 s5 : Value}
theorem four_11 (h : Labs w n b1 s4 s5 W) : Four w n b1 W.heap.size (W.heap.size + 1) s4 s5 ((W.alloc (.cells #[.int .i64 2, s4] 72)).alloc (.cells #[.int .i64 2, s5] 72)) := by
 refine ⟨(h.alloc _).alloc _, (Blk.new W _ _).alloc _, ?_⟩
 have := Blk.new (W.alloc (.cells #[.int .i64 2, s4] 72)) #[.int .i64 2, s5] 72
 rw [World.size_alloc] at this; exact this
theorem four_12 (h : Labs w n b1 s4 s5 W) : Four w n b1 (W.heap.size + 1) W.heap.size s4 s5 ((W.alloc (.cells #[.int .i64 2, s5] 72)).alloc (.cells #[.int .i64 2, s4] 72)) := by
 refine ⟨(h.alloc _).alloc _, ?_, (Blk.new W _ _).alloc _⟩
 have := Blk.new (W.alloc (.cells #[.int .i64 2, s5] 72)) #[.int .i64 2, s4] 72
 rw [World.size_alloc] at this; exact this
theorem four_21 (h : Labs w n b1 s4 s5 W) {t : Nat} (ht : Blk W t #[.int .i64 0, .slice none 0 0] 72) (hn : b1 + 1 < t) :
  Four w n b1 t W.heap.size s4 s5 (((W.setCell ⟨t, 0, none⟩ (.int .i64 2)).setCell ⟨t, 1, none⟩ s4).alloc (.cells #[.int .i64 2, s5] 72)) := by
 refine ⟨(h.store ht hn _ _).alloc _, (blk_stored ht _ _).alloc _, ?_⟩
 have := Blk.new ((W.setCell ⟨t, 0, none⟩ (.int .i64 2)).setCell ⟨t, 1, none⟩ s4) #[.int .i64 2, s5] 72
 simpa using this
theorem four_22 (h : Labs w n b1 s4 s5 W) {t : Nat} (ht : Blk W t #[.int .i64 0, .slice none 0 0] 72) (hn : b1 + 1 < t) :
  Four w n b1 W.heap.size t s4 s5 (((W.setCell ⟨t, 0, none⟩ (.int .i64 2)).setCell ⟨t, 1, none⟩ s5).alloc (.cells #[.int .i64 2, s4] 72)) := by
 refine ⟨(h.store ht hn _ _).alloc _, ?_, (blk_stored ht _ _).alloc _⟩
 have := Blk.new ((W.setCell ⟨t, 0, none⟩ (.int .i64 2)).setCell ⟨t, 1, none⟩ s5) #[.int .i64 2, s4] 72
 simpa using this
theorem four_3 (h : Labs w n b1 s4 s5 W) {t t' : Nat} (ht : Blk W t #[.int .i64 0, .slice none 0 0] 72) (ht' : Blk W t' #[.int .i64 0, .slice none 0 0] 72) (hn : b1 + 1 < t) (hn' : b1 + 1 < t') (hne : t ≠ t') :
  Four w n b1 t t' s4 s5 ((((W.setCell ⟨t, 0, none⟩ (.int .i64 2)).setCell ⟨t, 1, none⟩ s4).setCell ⟨t', 0, none⟩ (.int .i64 2)).setCell ⟨t', 1, none⟩ s5) :=
 ⟨(h.store ht hn _ _).store (blk_beside ht' hne _ _) hn' _ _, blk_beside (blk_stored ht _ _) (Ne.symm hne) _ _, blk_stored (blk_beside ht' hne _ _) _ _⟩
end
end Go.Proofs.YtmlcgebahdcmaaaGreatDoor
namespace Go.Proofs.YtmlcgebahdcmaaaGreatDoor
open Go.RowKit
attribute [local irreducible] World.setCell World.alloc World.drew World.setRow Calls Code.wp
def rowsL : List (List Lab) := [[labOne], [labUp], [labOwn], [labThree], [labOne, labThree], [labUp, labThree], [labOwn, labThree]]
def putAt (bs : List UInt8) (q : Nat) (ds : List UInt8) : List UInt8 := bs.take q ++ ds ++ bs.drop (q + ds.length)
def rowB (k j : Nat) : List UInt8 := ((rowsL.getD k []).take j).flatMap labP
def contK (k : Nat) : List UInt8 := (List.range k).foldl (fun bs i => putAt bs (16 * i) (rowB i 2)) (List.replicate 128 0)
def contKJ (k j : Nat) : List UInt8 := putAt (contK k) (16 * k) (rowB k j)
def placeKJ (k j : Nat) : Nat := 16 * k + (rowB k j).length
theorem cont_step : ∀ k, k < 7 -> ∀ j, j < (rowsL.getD k []).length -> contKJ k (j + 1) = putAt (contKJ k j) (placeKJ k j) (labP ((rowsL.getD k []).getD j labOne)) /\ placeKJ k (j + 1) = placeKJ k j + (labP ((rowsL.getD k []).getD j labOne)).length /\ placeKJ k (j + 1) <= 128 /\ placeKJ k j < 128 /\ 0 < (labP ((rowsL.getD k []).getD j labOne)).length /\ (contKJ k j).length = 128 /\ ((rowsL.getD k []).getD j labOne).right = true := by decide +kernel
theorem cont_ends : ∀ k, k < 7 -> contKJ k 0 = contK k /\ placeKJ k 0 = 16 * k /\ contKJ k (rowsL.getD k []).length = contK (k + 1) := by decide +kernel
theorem cont_all : contK 7 = labelsB /\ contK 0 = List.replicate 128 0 := by decide +kernel
theorem run_make128 (w : World) : (Instr.makeSlice 44 (.int .i64 128) (.int .i64 128)).run Tryz.prog w =
  .ok (.slice (some ⟨w.heap.size, 0, none⟩) 128 128) (w.alloc (.cells ((List.replicate 128 (0 : UInt8)).map byteV).toArray 5)) := by
 obtain ⟨i, hi, hz, hs, hb⟩ : ∃ i, Tryz.prog.info? 5 = some i /\ i.zero = some (.int .u8 0) /\ i.size = 1 /\ i.bytes = 1 :=
  info_parts (by kernel_rfl)
 have := run_make (P := Tryz.prog) w 44 5 i _ Tryz.underlying44 hi hz .i64 .i64 128 128 (by omega) (by omega) (by rw [hb]; omega) (by omega)
 rw [this, hs, show (128 : Int).toNat = 128 from rfl, made_row _ (.int .u8 0) _ (by simp [Value.cells]) (fun i hi => by
  simp [Value.cells] at hi ⊢; subst hi; rfl), Nat.mul_one]
 rfl
theorem step_copy_data {w : World} {ops : Array Oper} {o : Oper} {a : Act} {K : Act -> World -> Prop} {Q : Exit -> Act -> World -> Prop} {Z : Prop} (hgd : o.guard = none) (d s : Operand)
  (ho : o.op = .call { callee := .builtin .copy, args := #[d, s], argTypes := #[44, 44] }) (g q dLen dCap : Nat) (bs ds : List UInt8) (xv : Value)
  (hB : Blk w g (bs.map byteV).toArray 5) (hd : a.eval d = .slice (some ⟨g, q, none⟩) dLen dCap) (hs : a.eval s = xv) (hx : DataIn w xv ds) (h0 : 0 < ds.length) (hl : ds.length <= dLen) (hfit : q + ds.length <= bs.length)
  (hk : ∀ w', Kept (· = g) w w' -> Blk w' g ((putAt bs q ds).map byteV).toArray 5 -> K (a.put o.dst (.int .i64 (ds.length : Nat))) w') :
  if Region.wanted o (yielded ops a.tmps) = true then Oper.wp Tryz.prog o a w K Q else Z := by
 have hw : Region.wanted o (yielded ops a.tmps) = true := by simp [Region.wanted, hgd]
 rw [if_pos hw]
 obtain ⟨A, c, rfl, hc1, hc2⟩ := RowAt.form hx
 obtain ⟨b, rfl, -, hcl⟩ := RowAt.cells hx h0
 have hrun := run_copy_row (P := Tryz.prog) w 44 44 o.type 5 g q dLen dCap ⟨b, 0, none⟩ ds.length c _ _ (ds.map byteV) Tryz.underlying44 (by kernel_rfl) hB (by rw [List.length_map]; exact (Nat.min_eq_left hl).symm) (fun j v hj => by rw [Addr.add_lit, Nat.zero_add]; exact hcl j v hj) (by simpa using hfit) (bytes_one ds)
 unfold Oper.wp
 simp [execOp, ho, resolve, invoke, builtin, hd, hs, hrun, Result.andThen]
 refine hk _ (Kept.setRow (S := (· = g)) (Kept.refl _ w) (.inr rfl) _) ?_
 refine Blk.cells (hB.setRow _) ?_
 unfold putAt
 simp
structure RowsIn (w : World) (bb rb : Nat) : Prop where
 lt : bb < rb /\ rb < w.heap.size
 at_ : ∀ k r, rowsL[k]? = some r -> ∃ b, bb < b /\ w.cell? ⟨rb, k, none⟩ = some (.slice (some ⟨b, 0, none⟩) r.length r.length) /\ b < w.heap.size /\
  ∀ j l, r[j]? = some l -> ∃ s, w.cell? ⟨b, j * 2, none⟩ = some (.int .i64 (l.d : Nat)) /\ w.cell? ⟨b, j * 2 + 1, none⟩ = some s /\ PairsIn w s l.ps
theorem RowsIn.kept {w w' : World} {bb rb : Nat} {cs : Array Value} (h : RowsIn w bb rb) (hB : Blk w bb cs 5) (k : Kept (· = bb) w w') : RowsIn w' bb rb := by
 refine ⟨⟨h.lt.1, Nat.lt_of_lt_of_le h.lt.2 k.size⟩, fun i r hr => ?_⟩
 obtain ⟨b, h1, h2, h3, h4⟩ := h.at_ i r hr
 have hc : ∀ c, bb < c -> c < w.heap.size -> ∀ j, w'.cell? ⟨c, j, none⟩ = w.cell? ⟨c, j, none⟩ := fun c e1 e2 j => World.cell?_of_block (a := ⟨c, j, none⟩) (k.block c e2 (fun e => by have e' : c = bb := e; omega))
 refine ⟨b, h1, (hc rb h.lt.1 h.lt.2 i).trans h2, Nat.lt_of_lt_of_le h3 k.size, fun j l hl => ?_⟩
 obtain ⟨s, a1, a2, a3⟩ := h4 j l hl
 exact ⟨s, (hc b h1 h3 _).trans a1, (hc b h1 h3 _).trans a2, RowAt.kept a3 k (fun c cs' fz e hh => by
  have e' : c = bb := e
  rw [e'] at hh
  have := hh.symm.trans hB
  simp at this)⟩
theorem RowsIn.below {w w' : World} {bb rb : Nat} (h : RowsIn w bb rb) (k : Below w.heap.size w w') : RowsIn w' bb rb := by
 refine ⟨⟨h.lt.1, Nat.lt_of_lt_of_le h.lt.2 k.size⟩, fun i r hr => ?_⟩
 obtain ⟨b, h1, h2, h3, h4⟩ := h.at_ i r hr
 have hc : ∀ c, c < w.heap.size -> ∀ j, w'.cell? ⟨c, j, none⟩ = w.cell? ⟨c, j, none⟩ := fun c e2 j => k.cell (p := ⟨c, j, none⟩) e2
 refine ⟨b, h1, (hc rb h.lt.2 i).trans h2, Nat.lt_of_lt_of_le h3 k.size, fun j l hl => ?_⟩
 obtain ⟨s, a1, a2, a3⟩ := h4 j l hl
 exact ⟨s, (hc b h3 _).trans a1, (hc b h3 _).trans a2, RowAt.below a3 k (Nat.le_refl _)⟩
def rowsW (wx : World) (z : Array Value) (s4 s5 : Value) : World :=
 ((((((((wx.alloc (.cells z 5)).alloc (.cells #[.int .i64 2, .slice none 0 0] 72)).alloc (.cells #[.int .i64 2, s4] 72)).alloc (.cells #[.int .i64 2, s5] 72)).alloc (.cells #[.int .i64 4, .slice none 0 0] 72)).alloc
  (.cells #[.int .i64 2, .slice none 0 0, .int .i64 4, .slice none 0 0] 72)).alloc (.cells #[.int .i64 2, s4, .int .i64 4, .slice none 0 0] 72)).alloc (.cells #[.int .i64 2, s5, .int .i64 4, .slice none 0 0] 72)).alloc
  (.cells #[.slice (some ⟨wx.heap.size + 1, 0, none⟩) 1 1, .slice (some ⟨wx.heap.size + 1 + 1, 0, none⟩) 1 1, .slice (some ⟨wx.heap.size + 1 + 1 + 1, 0, none⟩) 1 1, .slice (some ⟨wx.heap.size + 1 + 1 + 1 + 1, 0, none⟩) 1 1, .slice (some ⟨wx.heap.size + 1 + 1 + 1 + 1 + 1, 0, none⟩) 2 2, .slice (some ⟨wx.heap.size + 1 + 1 + 1 + 1 + 1 + 1, 0, none⟩) 2 2, .slice (some ⟨wx.heap.size + 1 + 1 + 1 + 1 + 1 + 1 + 1, 0, none⟩) 2 2] 154)
theorem rows_start (wx : World) (z : Array Value) (s4 s5 : Value) (h4 : PairsIn wx s4 [(1, 4)]) (h5 : PairsIn wx s5 [(1, 0)]) :
  Blk (rowsW wx z s4 s5) wx.heap.size z 5 /\ RowsIn (rowsW wx z s4 s5) wx.heap.size (wx.heap.size + 1 + 1 + 1 + 1 + 1 + 1 + 1 + 1) /\ Below wx.heap.size wx (rowsW wx z s4 s5) := by
 have hz : Blk (rowsW wx z s4 s5) wx.heap.size z 5 := ((((((((Blk.new wx z 5).alloc _).alloc _).alloc _).alloc _).alloc _).alloc _).alloc _).alloc _
 have b1 := Blk.new (wx.alloc (.cells z 5)) #[.int .i64 2, .slice none 0 0] 72
 rw [World.size_alloc] at b1
 have b2 := Blk.new ((wx.alloc (.cells z 5)).alloc (.cells #[.int .i64 2, .slice none 0 0] 72)) #[.int .i64 2, s4] 72
 rw [World.size_alloc, World.size_alloc] at b2
 have b3 := Blk.new (((wx.alloc (.cells z 5)).alloc (.cells #[.int .i64 2, .slice none 0 0] 72)).alloc (.cells #[.int .i64 2, s4] 72)) #[.int .i64 2, s5] 72
 rw [World.size_alloc, World.size_alloc, World.size_alloc] at b3
 have b4 := Blk.new ((((wx.alloc (.cells z 5)).alloc (.cells #[.int .i64 2, .slice none 0 0] 72)).alloc (.cells #[.int .i64 2, s4] 72)).alloc (.cells #[.int .i64 2, s5] 72)) #[.int .i64 4, .slice none 0 0] 72
 rw [World.size_alloc, World.size_alloc, World.size_alloc, World.size_alloc] at b4
 have b5 := Blk.new (((((wx.alloc (.cells z 5)).alloc (.cells #[.int .i64 2, .slice none 0 0] 72)).alloc (.cells #[.int .i64 2, s4] 72)).alloc (.cells #[.int .i64 2, s5] 72)).alloc (.cells #[.int .i64 4, .slice none 0 0] 72)) #[.int .i64 2, .slice none 0 0, .int .i64 4, .slice none 0 0] 72
 rw [World.size_alloc, World.size_alloc, World.size_alloc, World.size_alloc, World.size_alloc] at b5
 have b6 := Blk.new ((((((wx.alloc (.cells z 5)).alloc (.cells #[.int .i64 2, .slice none 0 0] 72)).alloc (.cells #[.int .i64 2, s4] 72)).alloc (.cells #[.int .i64 2, s5] 72)).alloc (.cells #[.int .i64 4, .slice none 0 0] 72)).alloc (.cells #[.int .i64 2, .slice none 0 0, .int .i64 4, .slice none 0 0] 72)) #[.int .i64 2, s4, .int .i64 4, .slice none 0 0] 72
 rw [World.size_alloc, World.size_alloc, World.size_alloc, World.size_alloc, World.size_alloc, World.size_alloc] at b6
 have b7 := Blk.new (((((((wx.alloc (.cells z 5)).alloc (.cells #[.int .i64 2, .slice none 0 0] 72)).alloc (.cells #[.int .i64 2, s4] 72)).alloc (.cells #[.int .i64 2, s5] 72)).alloc (.cells #[.int .i64 4, .slice none 0 0] 72)).alloc (.cells #[.int .i64 2, .slice none 0 0, .int .i64 4, .slice none 0 0] 72)).alloc (.cells #[.int .i64 2, s4, .int .i64 4, .slice none 0 0] 72)) #[.int .i64 2, s5, .int .i64 4, .slice none 0 0] 72
 rw [World.size_alloc, World.size_alloc, World.size_alloc, World.size_alloc, World.size_alloc, World.size_alloc, World.size_alloc] at b7
 have hB : Below wx.heap.size wx (rowsW wx z s4 s5) := by
  unfold rowsW
  have h (W : World) (o : Obj) (hh : Below wx.heap.size wx W) : Below wx.heap.size wx (W.alloc o) := hh.alloc hh.size o
  exact h _ _ (h _ _ (h _ _ (h _ _ (h _ _ (h _ _ (h _ _ (h _ _ (h _ _ (Below.refl _ wx)))))))))
 have c1 : Blk (rowsW wx z s4 s5) _ _ _ := ((((((b1.alloc _).alloc _).alloc _).alloc _).alloc _).alloc _).alloc _
 have c2 : Blk (rowsW wx z s4 s5) _ _ _ := (((((b2.alloc _).alloc _).alloc _).alloc _).alloc _).alloc _
 have c3 : Blk (rowsW wx z s4 s5) _ _ _ := ((((b3.alloc _).alloc _).alloc _).alloc _).alloc _
 have c4 : Blk (rowsW wx z s4 s5) _ _ _ := (((b4.alloc _).alloc _).alloc _).alloc _
 have c5 : Blk (rowsW wx z s4 s5) _ _ _ := ((b5.alloc _).alloc _).alloc _
 have c6 : Blk (rowsW wx z s4 s5) _ _ _ := (b6.alloc _).alloc _
 have c7 : Blk (rowsW wx z s4 s5) _ _ _ := b7.alloc _
 have hs : (rowsW wx z s4 s5).heap.size = wx.heap.size + 9 := by
  unfold rowsW
  simp only [World.size_alloc]
 have c8 : Blk (rowsW wx z s4 s5) (wx.heap.size + 1 + 1 + 1 + 1 + 1 + 1 + 1 + 1) #[.slice (some ⟨wx.heap.size + 1, 0, none⟩) 1 1, .slice (some ⟨wx.heap.size + 1 + 1, 0, none⟩) 1 1, .slice (some ⟨wx.heap.size + 1 + 1 + 1, 0, none⟩) 1 1, .slice (some ⟨wx.heap.size + 1 + 1 + 1 + 1, 0, none⟩) 1 1, .slice (some ⟨wx.heap.size + 1 + 1 + 1 + 1 + 1, 0, none⟩) 2 2, .slice (some ⟨wx.heap.size + 1 + 1 + 1 + 1 + 1 + 1, 0, none⟩) 2 2, .slice (some ⟨wx.heap.size + 1 + 1 + 1 + 1 + 1 + 1 + 1, 0, none⟩) 2 2] 154 := by
  have b8 := Blk.new ((((((((wx.alloc (.cells z 5)).alloc (.cells #[.int .i64 2, .slice none 0 0] 72)).alloc (.cells #[.int .i64 2, s4] 72)).alloc (.cells #[.int .i64 2, s5] 72)).alloc (.cells #[.int .i64 4, .slice none 0 0] 72)).alloc (.cells #[.int .i64 2, .slice none 0 0, .int .i64 4, .slice none 0 0] 72)).alloc (.cells #[.int .i64 2, s4, .int .i64 4, .slice none 0 0] 72)).alloc (.cells #[.int .i64 2, s5, .int .i64 4, .slice none 0 0] 72)) #[.slice (some ⟨wx.heap.size + 1, 0, none⟩) 1 1, .slice (some ⟨wx.heap.size + 1 + 1, 0, none⟩) 1 1, .slice (some ⟨wx.heap.size + 1 + 1 + 1, 0, none⟩) 1 1, .slice (some ⟨wx.heap.size + 1 + 1 + 1 + 1, 0, none⟩) 1 1, .slice (some ⟨wx.heap.size + 1 + 1 + 1 + 1 + 1, 0, none⟩) 2 2, .slice (some ⟨wx.heap.size + 1 + 1 + 1 + 1 + 1 + 1, 0, none⟩) 2 2, .slice (some ⟨wx.heap.size + 1 + 1 + 1 + 1 + 1 + 1 + 1, 0, none⟩) 2 2] 154
  rw [World.size_alloc, World.size_alloc, World.size_alloc, World.size_alloc, World.size_alloc, World.size_alloc, World.size_alloc, World.size_alloc] at b8
  exact b8
 have n0 : PairsIn (rowsW wx z s4 s5) (.slice none 0 0) [] := RowAt.nil _ _
 have n4 : PairsIn (rowsW wx z s4 s5) s4 [(1, 4)] := RowAt.below h4 hB (Nat.le_refl _)
 have n5 : PairsIn (rowsW wx z s4 s5) s5 [(1, 0)] := RowAt.below h5 hB (Nat.le_refl _)
 refine ⟨hz, ⟨⟨by omega, by omega⟩, fun k r hr => ?_⟩, hB⟩
 match k, hr with
 | 0, hr =>
  cases hr
  refine ⟨wx.heap.size + 1, by omega, (c8.cell 0).trans rfl, by omega, fun j l hl => ?_⟩
  match j, hl with
  | 0, hl => cases hl; exact ⟨_, (c1.cell 0).trans rfl, (c1.cell 1).trans rfl, n0⟩
 | 1, hr =>
  cases hr
  refine ⟨wx.heap.size + 1 + 1, by omega, (c8.cell 1).trans rfl, by omega, fun j l hl => ?_⟩
  match j, hl with
  | 0, hl => cases hl; exact ⟨_, (c2.cell 0).trans rfl, (c2.cell 1).trans rfl, n4⟩
 | 2, hr =>
  cases hr
  refine ⟨wx.heap.size + 1 + 1 + 1, by omega, (c8.cell 2).trans rfl, by omega, fun j l hl => ?_⟩
  match j, hl with
  | 0, hl => cases hl; exact ⟨_, (c3.cell 0).trans rfl, (c3.cell 1).trans rfl, n5⟩
 | 3, hr =>
  cases hr
  refine ⟨wx.heap.size + 1 + 1 + 1 + 1, by omega, (c8.cell 3).trans rfl, by omega, fun j l hl => ?_⟩
  match j, hl with
  | 0, hl => cases hl; exact ⟨_, (c4.cell 0).trans rfl, (c4.cell 1).trans rfl, n0⟩
 | 4, hr =>
  cases hr
  refine ⟨wx.heap.size + 1 + 1 + 1 + 1 + 1, by omega, (c8.cell 4).trans rfl, by omega, fun j l hl => ?_⟩
  match j, hl with
  | 0, hl => cases hl; exact ⟨_, (c5.cell 0).trans rfl, (c5.cell 1).trans rfl, n0⟩
  | 1, hl => cases hl; exact ⟨_, (c5.cell 2).trans rfl, (c5.cell 3).trans rfl, n0⟩
 | 5, hr =>
  cases hr
  refine ⟨wx.heap.size + 1 + 1 + 1 + 1 + 1 + 1, by omega, (c8.cell 5).trans rfl, by omega, fun j l hl => ?_⟩
  match j, hl with
  | 0, hl => cases hl; exact ⟨_, (c6.cell 0).trans rfl, (c6.cell 1).trans rfl, n4⟩
  | 1, hl => cases hl; exact ⟨_, (c6.cell 2).trans rfl, (c6.cell 3).trans rfl, n0⟩
 | 6, hr =>
  cases hr
  refine ⟨wx.heap.size + 1 + 1 + 1 + 1 + 1 + 1 + 1, by omega, (c8.cell 6).trans rfl, by omega, fun j l hl => ?_⟩
  match j, hl with
  | 0, hl => cases hl; exact ⟨_, (c7.cell 0).trans rfl, (c7.cell 1).trans rfl, n5⟩
  | 1, hl => cases hl; exact ⟨_, (c7.cell 2).trans rfl, (c7.cell 3).trans rfl, n0⟩
structure LbSt (w0 : World) (n0 bb rb k j : Nat) (W : World) : Prop where
 bytes : Blk W bb ((contKJ k j).map byteV).toArray 5
 rows : RowsIn W bb rb
 bel : Below n0 w0 W
 le : n0 <= bb
theorem LbSt.below {w0 W W' : World} {n0 bb rb k j : Nat} (h : LbSt w0 n0 bb rb k j W) (q : Below W.heap.size W W') : LbSt w0 n0 bb rb k j W' :=
 ⟨h.bytes.below q h.bytes.lt, h.rows.below q, h.bel.trans (q.mono (Nat.le_trans h.le (Nat.le_of_lt h.bytes.lt))), h.le⟩
theorem slice_from (g q : Nat) (hq : q < 128) (w : World) : (Instr.slice 44 (.slice (some ⟨g, 0, none⟩) 128 128) (some (.int .i64 q)) none none).run Tryz.prog w = .ok (.slice (some ⟨g, q, none⟩) (128 - q) (128 - q)) w := by
 have hq0 : (0 : Int) <= q := by omega
 have hqm2 : (q : Int) <= 128 := by omega
 have hne : ¬ 128 = q := by omega
 go_simp
 try rfl
end Go.Proofs.YtmlcgebahdcmaaaGreatDoor
