/- Of the proof of this claim: a joined text. -/
import Derived.Test.YtmlcgebahdcmaaaGreatDoorZzNn
import Derived.Test.YtmlcgebahdcmaaaGreatDoorZzLib
import Derived.Deep.Fields
import Derived.SizedLaws
import Derived.Lib.SmallJoins
import Derived.ProofKit
import Derived.Test.YtmlcgebahdcmaaaGreatDoorZzNq
set_option maxRecDepth 100000
namespace Go.Proofs.YtmlcgebahdcmaaaGreatDoor
open Go.RowKit Go.ChangeShapes Go.WideShapes Go.Deep
section
variable {H : Type} {enc : TypeId × Value -> H} {P : Program} {w : World}
theorem slice_w {T E n : Nat} (hT : P.underlying T = some (.slice E)) (hn : P.cellsOf E = n) (hn0 : 0 < n) (hb : 1 <= P.bytesOf E) {fuel : Nat} {v : Value} {y : DataW H × List MemPlace}
  (h : DataW.trod enc P w 0 (fun _ => true) true fuel T [v] = some y) {B : Nat} (hw : ∀ k ∈ y.1.weights P T, k <= B) :
  ∃ a len cap, v = .slice a len cap /\ len <= cap /\ cap <= maxLen /\ len <= B /\ ∃ b off, (0 < len -> a = some ⟨b, off, none⟩ /\ b < w.heap.size) /\
   ∀ j, j < len -> ∃ cs : List Value, cs.length = n /\ (∀ c, c < n -> w.cell? ⟨b, off + j * n + c, none⟩ = cs[c]?) /\ ∃ m y', DataW.trod enc P w 0 (fun _ => true) true m E cs = some y' /\ ∀ k ∈ y'.1.weights P E, k <= B := by
 rcases DataW.trod_slice hT h with ⟨hcs, _⟩ | ⟨x, len, cap, elems, rest, m, _, hcs, hy, _, hl, hm, hlen, hel, _, _⟩
 ·obtain rfl : v = .slice none 0 0 := by injection hcs
  exact ⟨none, 0, 0, rfl, Nat.le_refl _, by unfold maxLen; omega, Nat.zero_le _, 0, 0, fun h => absurd h (by omega), fun j hj => absurd hj (by omega)⟩
 ·obtain rfl : v = .slice (some x) len cap := by injection hcs
  subst hy
  have hw1 : ∀ k ∈ DataW.weights P T (.slice (elems.map (·.1)) (rest.map (·.1))), k <= B := hw
  have e : DataW.weights P T (.slice (elems.map (·.1)) (rest.map (·.1))) = ((elems.map (·.1)).length + (rest.map (·.1)).length) * P.bytesOf E :: (DataW.weightsAll P E (elems.map (·.1)) ++ DataW.weightsAll P E (rest.map (·.1))) := by
   rw [DataW.weights, hT]
  rw [e] at hw1
  have hB : len <= B := by
   have h1 := hw1 _ List.mem_cons_self
   rw [List.length_map, List.length_map, hlen] at h1
   exact Nat.le_trans (Nat.le_trans (Nat.le_add_right _ _) (Nat.le_mul_of_pos_right _ hb)) h1
  have hall : ∀ (l : List (DataW H)) (d : DataW H), d ∈ l -> ∀ k ∈ d.weights P E, k ∈ DataW.weightsAll P E l := by
   intro l
   induction l with
   | nil => intro d hd; cases hd
   | cons a r ih =>
    intro d hd k hk
    rw [DataW.weightsAll, List.mem_append]
    rcases List.mem_cons.1 hd with rfl | hd
    ·exact .inl hk
    ·exact .inr (ih d hd k hk)
  have hel2 : ∀ i, i < len -> ∃ y', elems[i]? = some y' /\ (∀ k ∈ y'.1.weights P E, k <= B) /\ ∃ cs, w.cells? 0 (x.add (i * P.cellsOf E)) (P.cellsOf E) = some cs /\ DataW.trod enc P w 0 (fun _ => true) true m E cs = some y' := by
   intro i hi
   have hg : elems[i]? = some (elems[i]'(by omega)) := List.getElem?_eq_getElem (by omega)
   have h1 := hel i hi
   rw [hg] at h1
   obtain ⟨cs, h2, h3⟩ := Option.bind_eq_some_iff.1 h1
   exact ⟨_, hg, fun k hk => hw1 _ (List.mem_cons_of_mem _ (List.mem_append_left _ (hall _ _ (List.mem_map_of_mem (List.getElem_mem (by omega))) k hk))), cs, h2, h3⟩
  rw [hn] at hel2
  by_cases h0 : len = 0
  ·subst h0
   exact ⟨_, 0, cap, rfl, hl, hm, hB, 0, 0, fun h => absurd h (by omega), fun j hj => absurd hj (by omega)⟩
  ·obtain ⟨_, _, _, cs0, hc0, _⟩ := hel2 0 (by omega)
   obtain ⟨hl0, hcell0⟩ := cells_at hc0
   have h00 := hcell0 0 hn0
   simp only [Nat.zero_mul, Addr.add_zero'] at h00
   rw [List.getElem?_eq_getElem (by omega)] at h00
   have hsp := World.cell?_spot h00
   have hlt := cell_lt h00
   obtain ⟨b, off, sp⟩ := x
   simp only at hsp
   subst hsp
   refine ⟨_, len, cap, rfl, hl, hm, hB, b, off, fun _ => ⟨rfl, hlt⟩, fun j hj => ?_⟩
   obtain ⟨y', _, hk, cs, hc, ht⟩ := hel2 j hj
   obtain ⟨hlen', hcell⟩ := cells_at hc
   refine ⟨cs, hlen', fun c hc => ?_, m, y', ht, hk⟩
   rw [<- hcell c hc, Addr.add_lit, Addr.add_lit]
theorem struct_w {fuel : Nat} {t : TypeId} {fs : Array Field} {l : List Value} {x : DataW H × List MemPlace} (hs : P.underlying t = some (.struct fs))
  (h : DataW.trod enc P w 0 (fun _ => true) true fuel t l = some x) {B : Nat} (hw : ∀ k ∈ x.1.weights P t, k <= B) :
  l.length = P.cellsOf t /\ ∃ m : Nat, ∀ (j : Nat) (f : Field) (o k : Nat) (t' : TypeId), fs[j]? = some f -> f.offset = o -> f.type = t' -> P.cellsOf t' = k -> ∃ y, DataW.trod enc P w 0 (fun _ => true) true m t' ((l.drop o).take k) = some y /\ ∀ k ∈ y.1.weights P t', k <= B := by
 obtain ⟨ys, n, _, hx, hl, hyl, hg⟩ := DataW.trod_struct hs h
 subst hx
 have e : DataW.weights P t (.agg (ys.map (·.1))) = DataW.weightsEach P (fs.toList.map (·.type)) (ys.map (·.1)) := by
  rw [DataW.weights, hs]
 have hw1 : ∀ k ∈ DataW.weights P t (.agg (ys.map (·.1))), k <= B := hw
 rw [e] at hw1
 refine ⟨hl, n, fun j f o k t' hj ho ht hk => ?_⟩
 subst ho ht hk
 have hjl := (Array.getElem?_eq_some_iff.1 hj).1
 have hy : ys[j]? = some (ys[j]'(by omega)) := List.getElem?_eq_getElem (by omega)
 refine ⟨_, (hg j f hj).trans hy, fun k hk => hw1 k (DataW.weights_mem_each (j := j) (t := f.type) ?_ ?_ k hk)⟩
 ·rw [List.getElem?_map, Array.getElem?_toList, hj]; rfl
 ·rw [List.getElem?_map, hy]; rfl
theorem list_of {α : Type} [Inhabited α] (n b off len : Nat) (cells : α -> List Value) (good : α -> Prop) (h : ∀ j, j < len -> ∃ x, good x /\ ∀ c, c < n -> w.cell? ⟨b, off + j * n + c, none⟩ = (cells x)[c]?) :
  ∃ l : List α, l.length = len /\ (∀ x ∈ l, good x) /\ ∀ (j : Nat) (x : α), l[j]? = some x -> ∀ c, c < n -> w.cell? ⟨b, off + j * n + c, none⟩ = (cells x)[c]? := by
 obtain ⟨X, hX⟩ := Go.Deep.choose_lt h
 refine ⟨(List.range len).map X, by simp, fun x hx => ?_, fun j x hj => ?_⟩
 ·obtain ⟨j, hj, rfl⟩ := List.mem_map.1 hx
  exact (hX j (List.mem_range.1 hj)).1
 ·rw [List.getElem?_map] at hj
  cases hr : (List.range len)[j]? with
  | none => rw [hr] at hj; cases hj
  | some q =>
   rw [hr] at hj
   obtain ⟨h1, h2⟩ := List.getElem?_eq_some_iff.1 hr
   rw [List.getElem_range] at h2
   rw [List.length_range] at h1
   cases hj
   subst h2
   exact (hX _ h1).2
theorem flat_get {α : Type} {n : Nat} {cells : α -> List Value} (hc : ∀ x, (cells x).length = n) : ∀ (l : List α) (j : Nat) (u : Value), (l.flatMap cells)[j]? = some u -> ∃ q r x, j = q * n + r /\ r < n /\ l[q]? = some x /\ (cells x)[r]? = some u
 | [], j, u, h => by simp at h
 | x :: l, j, u, h => by
  rw [List.flatMap_cons] at h
  by_cases hj : j < n
  ·rw [List.getElem?_append_left (by rw [hc]; exact hj)] at h
   exact ⟨0, j, x, by omega, hj, rfl, h⟩
  ·rw [List.getElem?_append_right (by rw [hc]; omega), hc] at h
   obtain ⟨q, r, y, h1, h2, h3, h4⟩ := flat_get hc l _ u h
   exact ⟨q + 1, r, y, by rw [Nat.add_mul]; omega, h2, h3, h4⟩
theorem grow_in {α : Type} [Inhabited α] {T E n : Nat} (hT : P.underlying T = some (.slice E)) (hn : P.cellsOf E = n) (hn0 : 0 < n) (hb : 1 <= P.bytesOf E) (cells : α -> List Value) (hc : ∀ x, (cells x).length = n) (good : α -> Prop)
  (hel : ∀ (cs : List Value) (m : Nat) (y : DataW H × List MemPlace), cs.length = n -> DataW.trod enc P w 0 (fun _ => true) true m E cs = some y -> ∃ x, good x /\ cs = cells x) {fuel : Nat} {v : Value} {y : DataW H × List MemPlace}
  (h : DataW.trod enc P w 0 (fun _ => true) true fuel T [v] = some y) {B : Nat} (hw : ∀ k ∈ y.1.weights P T, k <= B) :
  ∃ l : List α, GRow w v l.length (l.flatMap cells) /\ (∀ x ∈ l, good x) /\ l.length <= B := by
 obtain ⟨a, len, cap, rfl, hl, hm, hB, b, off, hab, hj⟩ := slice_w hT hn hn0 hb h hw
 obtain ⟨l, rfl, hg, hcl⟩ := list_of (w := w) n b off len cells good (fun j hjl => by
  obtain ⟨cs, h1, h2, m, y', h3, _⟩ := hj j hjl
  obtain ⟨x, hx, rfl⟩ := hel cs m y' h1 h3
  exact ⟨x, hx, h2⟩)
 refine ⟨l, ⟨a, cap, rfl, hl, hm, ?_⟩, hg, hB⟩
 by_cases h0 : l.length = 0
 ·exact .inl h0
 ·obtain ⟨e, hlt⟩ := hab (by omega)
  refine .inr ⟨b, off, e, hlt, fun j u hu => ?_⟩
  obtain ⟨q, r, x, rfl, hr, hx, hxr⟩ := flat_get hc l j u hu
  rw [<- Nat.add_assoc, hcl q x hx r hr]
  exact hxr
end
instance : Inhabited LSeed := ⟨⟨0, []⟩⟩
section
variable {H : Type} {enc : TypeId × Value -> H} {w : World}
theorem i64_cell {t m : Nat} {d : Value} {y : DataW H × List MemPlace} (ht : Tryz.prog.underlying t = some (.int .i64)) (h : DataW.trod enc Tryz.prog w 0 (fun _ => true) true m t [d] = some y) : ∃ x, d = .int .i64 x /\ I64 x := by
 obtain ⟨x, e, _, hw⟩ := DataW.trod_int ht h
 injection e with e
 exact ⟨x, e, wf_i64 hw⟩
theorem len1 {cs : List Value} (h : cs.length = 1) : ∃ d, cs = [d] := by
 match cs, h with
 | [d], _ => exact ⟨d, rfl⟩
theorem ints_in {fuel : Nat} {v : Value} {y : DataW H × List MemPlace} (h : DataW.trod enc Tryz.prog w 0 (fun _ => true) true fuel 26 [v] = some y) {B : Nat} (hw : ∀ k ∈ y.1.weights Tryz.prog 26, k <= B) :
  ∃ l : List Int, GRow w v l.length (l.map (Value.int .i64)) /\ (∀ x ∈ l, I64 x) /\ l.length <= B := by
 obtain ⟨l, h1, h2, h3⟩ := grow_in (α := Int) (n := 1) Tryz.underlying26 (by kernel_rfl) (by decide) (by decide +kernel) (fun x => [Value.int .i64 x]) (fun _ => rfl) I64 (fun cs m y hl ht => by
  obtain ⟨d, rfl⟩ := len1 hl
  obtain ⟨x, rfl, hx⟩ := i64_cell Tryz.underlying3 ht
  exact ⟨x, hx, rfl⟩) h hw
 exact ⟨l, by rw [List.map_eq_flatMap]; exact h1, h2, h3⟩
theorem lseed_cells {d0 d1 : Value} {m : Nat} {y : DataW H × List MemPlace} (h : DataW.trod enc Tryz.prog w 0 (fun _ => true) true m 28 [d0, d1] = some y) {B : Nat} (hw : ∀ k ∈ y.1.weights Tryz.prog 28, k <= B) :
  ∃ s : LSeed, d0 = .int .i64 s.d /\ I64 s.d /\ GRow w d1 s.ls.length (s.ls.map (Value.int .i64)) /\ ∀ n ∈ s.ls, I64 n := by
 obtain ⟨_, n, hg⟩ := struct_w Tryz.underlying28 h hw
 obtain ⟨y0, g0, _⟩ := hg 0 _ 0 1 _ rfl rfl rfl (by kernel_rfl)
 obtain ⟨y1, g1, w1⟩ := hg 1 _ 1 1 _ rfl rfl rfl (by kernel_rfl)
 obtain ⟨x0, rfl, h0⟩ := i64_cell (by kernel_rfl) g0
 obtain ⟨l, h1, h2, _⟩ := ints_in g1 w1
 exact ⟨⟨x0, l⟩, rfl, h0, h1, h2⟩
theorem calm_cells {cs : List Value} {m : Nat} {y : DataW H × List MemPlace} (hl : cs.length = 4) (h : DataW.trod enc Tryz.prog w 0 (fun _ => true) true m 30 cs = some y) {B : Nat} (hw : ∀ k ∈ y.1.weights Tryz.prog 30, k <= B) :
  ∃ q : (LSeed × Int) × (Value × Value), ((∀ n ∈ q.1.1.ls, I64 n) /\ (∃ a n c, q.2.1 = .slice a n c) /\ GRow w q.2.2 q.1.1.ls.length (q.1.1.ls.map (Value.int .i64))) /\ cs = calmC q.1 q.2 := by
 obtain ⟨_, n, hg⟩ := struct_w Tryz.underlying30 h hw
 match cs, hl with
 | [d0, d1, d2, d3], _ =>
  obtain ⟨y0, g0, w0⟩ := hg 0 _ 0 1 _ rfl rfl rfl (by kernel_rfl)
  obtain ⟨y1, g1, w1⟩ := hg 1 _ 1 2 _ rfl rfl rfl (by kernel_rfl)
  obtain ⟨y2, g2, w2⟩ := hg 2 _ 3 1 _ rfl rfl rfl (by kernel_rfl)
  obtain ⟨a, len, cap, e0, _⟩ := slice_w (n := 11) Tryz.underlying25 (by kernel_rfl) (by decide) (by decide +kernel) g0 w0
  obtain ⟨s, hs1, _, hs2, hs3⟩ := lseed_cells g1 w1
  obtain ⟨x, rfl, hx⟩ := i64_cell Tryz.underlying3 g2
  subst e0
  subst hs1
  exact ⟨((s, x), (.slice a len cap, d2)), ⟨hs3, ⟨_, _, _, rfl⟩, hs2⟩, rfl⟩
theorem open_calm {b0 : Nat} {r : Reach} {v : Value} {d : DataW H} {p : List MemPlace} (_hv : Value.okWide Tryz.prog w r b0 22 v) (h : DataW.Trod enc Tryz.prog w 0 (fun _ => true) true 22 v d p)
  (hw : ∀ k ∈ d.weights Tryz.prog 22, k <= reachBytes) : ∃ (l : List (LSeed × Int)) (Q : Nat -> Value × Value), CalmIn w v l Q /\ ∀ p ∈ l, ∀ n ∈ p.1.ls, I64 n := by
 obtain ⟨a0, len0, cap0, rfl⟩ := okWide_slice Tryz.underlying22 _hv
 obtain ⟨fuel, hf⟩ := h
 have hf : DataW.trod enc Tryz.prog w 0 (fun _ => true) true fuel 22 [.slice a0 len0 cap0] = some (d, p) := hf
 obtain ⟨a, len, cap, e, hl, hm, hB, b, off, hab, hj⟩ := slice_w (n := 4) Tryz.underlying22 (by kernel_rfl) (by decide) (by decide +kernel) hf hw
 cases e
 obtain ⟨L, hLl, hg, hcl⟩ := list_of (α := (LSeed × Int) × (Value × Value)) (w := w) 4 b off len0 (fun q => calmC q.1 q.2) (fun q => (∀ n ∈ q.1.1.ls, I64 n) /\ (∃ a n c, q.2.1 = .slice a n c) /\ GRow w q.2.2 q.1.1.ls.length (q.1.1.ls.map (Value.int .i64))) (fun j hjl => by
  obtain ⟨cs, h1, h2, m, y', h3, h4⟩ := hj j hjl
  obtain ⟨q, hq1, rfl⟩ := calm_cells h1 h3 h4
  exact ⟨q, hq1, h2⟩)
 have hat : ∀ (j : Nat) (s : LSeed × Int), (L.map (·.1))[j]? = some s -> ∃ q, L[j]? = some (s, q) /\ (L.getD j default).2 = q := fun j s hs => by
  rw [List.getElem?_map] at hs
  cases hL : L[j]? with
  | none => rw [hL] at hs; cases hs
  | some x =>
   rw [hL] at hs
   cases hs
   exact ⟨x.2, rfl, by rw [List.getD, hL]; rfl⟩
 refine ⟨L.map (·.1), fun j => (L.getD j default).2, ⟨fun j s hs => ?_, a0, cap0, by rw [List.length_map, hLl], by rw [List.length_map]; omega, hm, ?_⟩, fun s hs => ?_⟩
 ·obtain ⟨q, h1, h2⟩ := hat j s hs
  simp only [h2]
  exact (hg _ (List.mem_of_getElem? h1)).2
 ·by_cases h0 : len0 = 0
  ·exact .inl (by rw [List.length_map]; omega)
  ·obtain ⟨e, hlt⟩ := hab (by omega)
   refine .inr ⟨b, off, e, hlt, fun j s hs i hi => ?_⟩
   obtain ⟨q, h1, h2⟩ := hat j s hs
   simp only [h2]
   exact hcl j _ h1 i hi
 ·obtain ⟨x, hx, rfl⟩ := List.mem_map.1 hs
  exact (hg x hx).1
end
end Go.Proofs.YtmlcgebahdcmaaaGreatDoor
namespace Go.Proofs.YtmlcgebahdcmaaaGreatDoor
open Go.RowKit
theorem picks_law (v : Value) (picks ticks : Int) (w : World) (h : ∃ (l : List (LSeed × Int)) (Q : Nat -> Value × Value), CalmIn w v l Q /\ ∀ p ∈ l, ∀ n ∈ p.1.ls, I64 n) :
  Calls Tryz.prog 3 #[v, .int .i64 picks, .int .i64 ticks] w fun e w' => e = .returned (.bool true) /\ Below w.heap.size w w' := by
 obtain ⟨l, Q, h1, h2⟩ := h
 exact picks_walk l v Q picks ticks w h1 h2
end Go.Proofs.YtmlcgebahdcmaaaGreatDoor
