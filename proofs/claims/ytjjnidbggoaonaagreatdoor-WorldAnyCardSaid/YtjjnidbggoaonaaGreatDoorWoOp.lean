/- A plan that came in, opened. -/
import Derived.Test.YtjjnidbggoaonaaGreatDoorWoPg
import Derived.Test.YtjjnidbggoaonaaGreatDoorZaB
import Derived.Deep.Fields
import Derived.SizedLaws
import Derived.Lib.SmallJoins
namespace Go.Proofs.YtjjnidbggoaonaaGreatDoor
open Go.RowKit Go.ChangeShapes Go.WideShapes Go.Deep

section
variable {H : Type} {enc : TypeId × Value → H} {P : Program} {w : World}
/-- A slice that came in, of elements of n cells each: what it weighs bounds its length. -/
theorem slice_w {T E n : Nat} (hT : P.underlying T = some (.slice E)) (hn : P.cellsOf E = n) (hn0 : 0 < n) (hb : 1 ≤ P.bytesOf E) {fuel : Nat} {v : Value} {y : DataW H × List MemPlace}
    (h : DataW.trod enc P w 0 (fun _ => true) true fuel T [v] = some y) {B : Nat} (hw : ∀ k ∈ y.1.weights P T, k ≤ B) :
    ∃ a len cap, v = .slice a len cap ∧ len ≤ cap ∧ cap ≤ maxLen ∧ len ≤ B ∧ ∃ b off, (0 < len → a = some ⟨b, off, none⟩ ∧ b < w.heap.size) ∧
      ∀ j, j < len → ∃ cs : List Value, cs.length = n ∧ (∀ c, c < n → w.cell? ⟨b, off + j * n + c, none⟩ = cs[c]?) ∧ ∃ m y', DataW.trod enc P w 0 (fun _ => true) true m E cs = some y' ∧ ∀ k ∈ y'.1.weights P E, k ≤ B := by
  rcases DataW.trod_slice hT h with ⟨hcs, _⟩ | ⟨x, len, cap, elems, rest, m, _, hcs, hy, _, hl, hm, hlen, hel, _, _⟩
  · obtain rfl : v = .slice none 0 0 := by injection hcs
    exact ⟨none, 0, 0, rfl, Nat.le_refl _, by unfold maxLen; omega, Nat.zero_le _, 0, 0, fun h => absurd h (by omega), fun j hj => absurd hj (by omega)⟩
  · obtain rfl : v = .slice (some x) len cap := by injection hcs
    subst hy
    have hw1 : ∀ k ∈ DataW.weights P T (.slice (elems.map (·.1)) (rest.map (·.1))), k ≤ B := hw
    have e : DataW.weights P T (.slice (elems.map (·.1)) (rest.map (·.1))) = ((elems.map (·.1)).length + (rest.map (·.1)).length) * P.bytesOf E :: (DataW.weightsAll P E (elems.map (·.1)) ++ DataW.weightsAll P E (rest.map (·.1))) := by
      rw [DataW.weights, hT]
    rw [e] at hw1
    have hB : len ≤ B := by
      have h1 := hw1 _ List.mem_cons_self
      rw [List.length_map, List.length_map, hlen] at h1
      exact Nat.le_trans (Nat.le_trans (Nat.le_add_right _ _) (Nat.le_mul_of_pos_right _ hb)) h1
    have hall : ∀ (l : List (DataW H)) (d : DataW H), d ∈ l → ∀ k ∈ d.weights P E, k ∈ DataW.weightsAll P E l := by
      intro l
      induction l with
      | nil => intro d hd; cases hd
      | cons a r ih =>
        intro d hd k hk
        rw [DataW.weightsAll, List.mem_append]
        rcases List.mem_cons.1 hd with rfl | hd
        · exact .inl hk
        · exact .inr (ih d hd k hk)
    have hel2 : ∀ i, i < len → ∃ y', elems[i]? = some y' ∧ (∀ k ∈ y'.1.weights P E, k ≤ B) ∧ ∃ cs, w.cells? 0 (x.add (i * P.cellsOf E)) (P.cellsOf E) = some cs ∧ DataW.trod enc P w 0 (fun _ => true) true m E cs = some y' := by
      intro i hi
      have hg : elems[i]? = some (elems[i]'(by omega)) := List.getElem?_eq_getElem (by omega)
      have h1 := hel i hi
      rw [hg] at h1
      obtain ⟨cs, h2, h3⟩ := Option.bind_eq_some_iff.1 h1
      exact ⟨_, hg, fun k hk => hw1 _ (List.mem_cons_of_mem _ (List.mem_append_left _ (hall _ _ (List.mem_map_of_mem (List.getElem_mem (by omega))) k hk))), cs, h2, h3⟩
    rw [hn] at hel2
    by_cases h0 : len = 0
    · subst h0
      exact ⟨_, 0, cap, rfl, hl, hm, hB, 0, 0, fun h => absurd h (by omega), fun j hj => absurd hj (by omega)⟩
    · obtain ⟨_, _, _, cs0, hc0, _⟩ := hel2 0 (by omega)
      obtain ⟨hl0, hcell0⟩ := cells_at hc0
      have h00 := hcell0 0 hn0
      simp only [Nat.zero_mul, Addr.add_zero'] at h00
      rw [List.getElem?_eq_getElem (by omega)] at h00
      have hsp := World.cell?_spot h00
      have hlt := cell_lt h00
      obtain ⟨b, off, sp⟩ := x
      simp only at hsp
      subst hsp
      refine ⟨_, len, cap, rfl, hl, hm, hB, b, off, fun _ => ⟨rfl, hlt⟩, fun j hj => ?_⟩
      obtain ⟨y', _, hk, cs, hc, ht⟩ := hel2 j hj
      obtain ⟨hlen', hcell⟩ := cells_at hc
      refine ⟨cs, hlen', fun c hc => ?_, m, y', ht, hk⟩
      rw [← hcell c hc, Addr.add_lit, Addr.add_lit]
/-- A struct that came in: each field's cells, its reading, what it weighs. -/
theorem struct_w {fuel : Nat} {t : TypeId} {fs : Array Field} {l : List Value} {x : DataW H × List MemPlace} (hs : P.underlying t = some (.struct fs))
    (h : DataW.trod enc P w 0 (fun _ => true) true fuel t l = some x) {B : Nat} (hw : ∀ k ∈ x.1.weights P t, k ≤ B) :
    l.length = P.cellsOf t ∧ ∃ m : Nat, ∀ (j : Nat) (f : Field) (o k : Nat) (t' : TypeId), fs[j]? = some f → f.offset = o → f.type = t' → P.cellsOf t' = k → ∃ y, DataW.trod enc P w 0 (fun _ => true) true m t' ((l.drop o).take k) = some y ∧ ∀ k ∈ y.1.weights P t', k ≤ B := by
  obtain ⟨ys, n, _, hx, hl, hyl, hg⟩ := DataW.trod_struct hs h
  subst hx
  have e : DataW.weights P t (.agg (ys.map (·.1))) = DataW.weightsEach P (fs.toList.map (·.type)) (ys.map (·.1)) := by
    rw [DataW.weights, hs]
  have hw1 : ∀ k ∈ DataW.weights P t (.agg (ys.map (·.1))), k ≤ B := hw
  rw [e] at hw1
  refine ⟨hl, n, fun j f o k t' hj ho ht hk => ?_⟩
  subst ho ht hk
  have hjl := (Array.getElem?_eq_some_iff.1 hj).1
  have hy : ys[j]? = some (ys[j]'(by omega)) := List.getElem?_eq_getElem (by omega)
  refine ⟨_, (hg j f hj).trans hy, fun k hk => hw1 k (DataW.weights_mem_each (j := j) (t := f.type) ?_ ?_ k hk)⟩
  · rw [List.getElem?_map, Array.getElem?_toList, hj]; rfl
  · rw [List.getElem?_map, hy]; rfl
/-- A list of what lies in memory. -/
theorem list_of {α : Type} [Inhabited α] (n b off len : Nat) (cells : α → List Value) (good : α → Prop) (h : ∀ j, j < len → ∃ x, good x ∧ ∀ c, c < n → w.cell? ⟨b, off + j * n + c, none⟩ = (cells x)[c]?) :
    ∃ l : List α, l.length = len ∧ (∀ x ∈ l, good x) ∧ ∀ (j : Nat) (x : α), l[j]? = some x → ∀ c, c < n → w.cell? ⟨b, off + j * n + c, none⟩ = (cells x)[c]? := by
  obtain ⟨X, hX⟩ := Go.Deep.choose_lt h
  refine ⟨(List.range len).map X, by simp, fun x hx => ?_, fun j x hj => ?_⟩
  · obtain ⟨j, hj, rfl⟩ := List.mem_map.1 hx
    exact (hX j (List.mem_range.1 hj)).1
  · rw [List.getElem?_map] at hj
    cases hr : (List.range len)[j]? with
    | none => rw [hr] at hj; cases hj
    | some q =>
      rw [hr] at hj
      obtain ⟨h1, h2⟩ := List.getElem?_eq_some_iff.1 hr
      rw [List.getElem_range] at h2
      rw [List.length_range] at h1
      cases hj
      subst h2
      exact (hX _ h1).2
theorem flat_get {α : Type} {n : Nat} {cells : α → List Value} (hc : ∀ x, (cells x).length = n) : ∀ (l : List α) (j : Nat) (u : Value), (l.flatMap cells)[j]? = some u → ∃ q r x, j = q * n + r ∧ r < n ∧ l[q]? = some x ∧ (cells x)[r]? = some u
  | [], j, u, h => by simp at h
  | x :: l, j, u, h => by
    rw [List.flatMap_cons] at h
    by_cases hj : j < n
    · rw [List.getElem?_append_left (by rw [hc]; exact hj)] at h
      exact ⟨0, j, x, by omega, hj, rfl, h⟩
    · rw [List.getElem?_append_right (by rw [hc]; omega), hc] at h
      obtain ⟨q, r, y, h1, h2, h3, h4⟩ := flat_get hc l _ u h
      exact ⟨q + 1, r, y, by rw [Nat.add_mul]; omega, h2, h3, h4⟩
/-- A slice that came in is a list's cells. -/
theorem grow_in {α : Type} [Inhabited α] {T E n : Nat} (hT : P.underlying T = some (.slice E)) (hn : P.cellsOf E = n) (hn0 : 0 < n) (hb : 1 ≤ P.bytesOf E) (cells : α → List Value) (hc : ∀ x, (cells x).length = n) (good : α → Prop)
    (hel : ∀ (cs : List Value) (m : Nat) (y : DataW H × List MemPlace), cs.length = n → DataW.trod enc P w 0 (fun _ => true) true m E cs = some y → ∃ x, good x ∧ cs = cells x) {fuel : Nat} {v : Value} {y : DataW H × List MemPlace}
    (h : DataW.trod enc P w 0 (fun _ => true) true fuel T [v] = some y) {B : Nat} (hw : ∀ k ∈ y.1.weights P T, k ≤ B) :
    ∃ l : List α, GRow w v l.length (l.flatMap cells) ∧ (∀ x ∈ l, good x) ∧ l.length ≤ B := by
  obtain ⟨a, len, cap, rfl, hl, hm, hB, b, off, hab, hj⟩ := slice_w hT hn hn0 hb h hw
  obtain ⟨l, rfl, hg, hcl⟩ := list_of (w := w) n b off len cells good (fun j hjl => by
    obtain ⟨cs, h1, h2, m, y', h3, _⟩ := hj j hjl
    obtain ⟨x, hx, rfl⟩ := hel cs m y' h1 h3
    exact ⟨x, hx, h2⟩)
  refine ⟨l, ⟨a, cap, rfl, hl, hm, ?_⟩, hg, hB⟩
  by_cases h0 : l.length = 0
  · exact .inl h0
  · obtain ⟨e, hlt⟩ := hab (by omega)
    refine .inr ⟨b, off, e, hlt, fun j u hu => ?_⟩
    obtain ⟨q, r, x, rfl, hr, hx, hxr⟩ := flat_get hc l j u hu
    rw [← Nat.add_assoc, hcl q x hx r hr]
    exact hxr
end
/-- The same, where it doesn't matter what they weigh. -/
theorem struct_n {P : Program} {H : Type} {enc : TypeId × Value → H} {w : World} {fuel : Nat} {t : TypeId} {fs : Array Field} {l : List Value} {x : DataW H × List MemPlace} (hs : P.underlying t = some (.struct fs))
    (h : DataW.trod enc P w 0 (fun _ => true) true fuel t l = some x) :
    ∃ m : Nat, ∀ (j : Nat) (f : Field) (o k : Nat) (t' : TypeId), fs[j]? = some f → f.offset = o → f.type = t' → P.cellsOf t' = k → ∃ y, DataW.trod enc P w 0 (fun _ => true) true m t' ((l.drop o).take k) = some y := by
  obtain ⟨ys, n, _, hx, hl, hyl, hg⟩ := DataW.trod_struct hs h
  refine ⟨n, fun j f o k t' hj ho ht hk => ?_⟩
  subst ho ht hk
  have hjl := (Array.getElem?_eq_some_iff.1 hj).1
  exact ⟨_, (hg j f hj).trans (List.getElem?_eq_getElem (by omega))⟩
instance : Inhabited WMap := ⟨⟨0, 0, 0, 0, false⟩⟩
instance : Inhabited OSeed := ⟨⟨0, 0, ⟨0, []⟩, ⟨0, []⟩, 0, 0, [], [], 0, 0⟩⟩
instance : Inhabited OSl := ⟨⟨.bool false, .bool false, .bool false, .bool false⟩⟩
section
variable {H : Type} {enc : TypeId × Value → H} {w : World}
theorem i64_cell {t m : Nat} {d : Value} {y : DataW H × List MemPlace} (ht : Tryz.prog.underlying t = some (.int .i64)) (h : DataW.trod enc Tryz.prog w 0 (fun _ => true) true m t [d] = some y) : ∃ x, d = .int .i64 x ∧ I64 x := by
  obtain ⟨x, e, _, hw⟩ := DataW.trod_int ht h
  injection e with e
  exact ⟨x, e, wf_i64 hw⟩
theorem u64_cell {t m : Nat} {d : Value} {y : DataW H × List MemPlace} (ht : Tryz.prog.underlying t = some (.int .u64)) (h : DataW.trod enc Tryz.prog w 0 (fun _ => true) true m t [d] = some y) : ∃ x, d = .int .u64 x ∧ 0 ≤ x ∧ x ≤ 18446744073709551615 := by
  obtain ⟨x, e, _, hw⟩ := DataW.trod_int ht h
  injection e with e
  exact ⟨x, e, wf_u64 hw⟩
theorem bool_cell {t m : Nat} {d : Value} {y : DataW H × List MemPlace} (ht : Tryz.prog.underlying t = some .bool) (h : DataW.trod enc Tryz.prog w 0 (fun _ => true) true m t [d] = some y) : ∃ x, d = .bool x := by
  obtain ⟨x, e, _⟩ := DataW.trod_bool ht h
  injection e with e
  exact ⟨x, e⟩
theorem len1 {cs : List Value} (h : cs.length = 1) : ∃ d, cs = [d] := by
  match cs, h with
  | [d], _ => exact ⟨d, rfl⟩
theorem ints_in {fuel : Nat} {v : Value} {y : DataW H × List MemPlace} (h : DataW.trod enc Tryz.prog w 0 (fun _ => true) true fuel 40 [v] = some y) {B : Nat} (hw : ∀ k ∈ y.1.weights Tryz.prog 40, k ≤ B) :
    ∃ l : List Int, GRow w v l.length (l.map (Value.int .i64)) ∧ (∀ x ∈ l, I64 x) ∧ l.length ≤ B := by
  obtain ⟨l, h1, h2, h3⟩ := grow_in (α := Int) (n := 1) Tryz.underlying40 (by kernel_rfl) (by decide) (by decide +kernel) (fun x => [Value.int .i64 x]) (fun _ => rfl) I64 (fun cs m y hl ht => by
    obtain ⟨d, rfl⟩ := len1 hl
    obtain ⟨x, rfl, hx⟩ := i64_cell Tryz.underlying3 ht
    exact ⟨x, hx, rfl⟩) h hw
  exact ⟨l, by rw [List.map_eq_flatMap]; exact h1, h2, h3⟩
theorem bytes_in {fuel : Nat} {v : Value} {y : DataW H × List MemPlace} (h : DataW.trod enc Tryz.prog w 0 (fun _ => true) true fuel 27 [v] = some y) {B : Nat} (hw : ∀ k ∈ y.1.weights Tryz.prog 27, k ≤ B) :
    ∃ l : List UInt8, GRow w v l.length (l.map byteV) ∧ l.length ≤ B := by
  obtain ⟨l, h1, h2, h3⟩ := grow_in (α := UInt8) (n := 1) Tryz.underlying27 (by kernel_rfl) (by decide) (by decide +kernel) (fun x => [byteV x]) (fun _ => rfl) (fun _ => True) (fun cs m y hl ht => by
    obtain ⟨d, rfl⟩ := len1 hl
    obtain ⟨x, e, _, hx⟩ := DataW.trod_int Tryz.underlying5 ht
    injection e with e
    subst e
    have hb := wf_u8 hx
    refine ⟨UInt8.ofNat x.toNat, trivial, ?_⟩
    have : ((UInt8.ofNat x.toNat).toNat : Int) = x := by
      rw [UInt8.toNat_ofNat', Nat.mod_eq_of_lt (by show x.toNat < 256; omega)]; omega
    unfold byteV
    rw [this]) h hw
  exact ⟨l, by rw [List.map_eq_flatMap]; exact h1, h3⟩
set_option maxRecDepth 100000 in
theorem slot_cells {cs : List Value} {m : Nat} {y : DataW H × List MemPlace} (hl : cs.length = 2) (h : DataW.trod enc Tryz.prog w 0 (fun _ => true) true m 110 cs = some y) : ∃ s : Int × Int, ((0 ≤ s.1 ∧ s.1 ≤ 18446744073709551615) ∧ I64 s.2) ∧ cs = slotV s := by
  obtain ⟨n, hg⟩ := struct_n Tryz.underlying110 h
  match cs, hl with
  | [d0, d1], _ =>
    obtain ⟨y0, g0⟩ := hg 0 _ 0 1 _ rfl rfl rfl (by kernel_rfl)
    obtain ⟨y1, g1⟩ := hg 1 _ 1 1 _ rfl rfl rfl (by kernel_rfl)
    obtain ⟨x0, rfl, h0⟩ := u64_cell (by kernel_rfl) g0
    obtain ⟨x1, rfl, h1⟩ := i64_cell (by kernel_rfl) g1
    exact ⟨(x0, x1), ⟨h0, h1⟩, rfl⟩
set_option maxRecDepth 100000 in
theorem map_cells {cs : List Value} {m : Nat} {y : DataW H × List MemPlace} (hl : cs.length = 5) (h : DataW.trod enc Tryz.prog w 0 (fun _ => true) true m 157 cs = some y) : ∃ s : WMap, s.bd ∧ cs = mapV s := by
  obtain ⟨n, hg⟩ := struct_n Tryz.underlying157 h
  match cs, hl with
  | [d0, d1, d2, d3, d4], _ =>
    obtain ⟨y0, g0⟩ := hg 0 _ 0 1 _ rfl rfl rfl (by kernel_rfl)
    obtain ⟨y1, g1⟩ := hg 1 _ 1 1 _ rfl rfl rfl (by kernel_rfl)
    obtain ⟨y2, g2⟩ := hg 2 _ 2 1 _ rfl rfl rfl (by kernel_rfl)
    obtain ⟨y3, g3⟩ := hg 3 _ 3 1 _ rfl rfl rfl (by kernel_rfl)
    obtain ⟨y4, g4⟩ := hg 4 _ 4 1 _ rfl rfl rfl (by kernel_rfl)
    obtain ⟨x0, rfl, h0⟩ := i64_cell (by kernel_rfl) g0
    obtain ⟨x1, rfl, h1⟩ := u64_cell (by kernel_rfl) g1
    obtain ⟨x2, rfl, h2⟩ := i64_cell (by kernel_rfl) g2
    obtain ⟨x3, rfl, h3⟩ := i64_cell (by kernel_rfl) g3
    obtain ⟨x4, rfl⟩ := bool_cell (by kernel_rfl) g4
    exact ⟨⟨x0, x1, x2, x3, x4⟩, ⟨h0, h1, h2, h3⟩, rfl⟩
theorem slots_in {fuel : Nat} {v : Value} {y : DataW H × List MemPlace} (h : DataW.trod enc Tryz.prog w 0 (fun _ => true) true fuel 51 [v] = some y) {B : Nat} (hw : ∀ k ∈ y.1.weights Tryz.prog 51, k ≤ B) :
    ∃ l : List (Int × Int), GRow w v l.length (l.flatMap slotV) ∧ (∀ s ∈ l, (0 ≤ s.1 ∧ s.1 ≤ 18446744073709551615) ∧ I64 s.2) ∧ l.length ≤ B :=
  grow_in (n := 2) Tryz.underlying51 (by kernel_rfl) (by decide) (by decide +kernel) slotV (fun _ => rfl) _ (fun cs m y hl ht => slot_cells hl ht) h hw
theorem maps_in {fuel : Nat} {v : Value} {y : DataW H × List MemPlace} (h : DataW.trod enc Tryz.prog w 0 (fun _ => true) true fuel 99 [v] = some y) {B : Nat} (hw : ∀ k ∈ y.1.weights Tryz.prog 99, k ≤ B) :
    ∃ l : List WMap, GRow w v l.length (l.flatMap mapV) ∧ (∀ s ∈ l, s.bd) ∧ l.length ≤ B :=
  grow_in (n := 5) Tryz.underlying99 (by kernel_rfl) (by decide) (by decide +kernel) mapV (fun _ => rfl) _ (fun cs m y hl ht => map_cells hl ht) h hw
set_option maxRecDepth 100000 in
theorem lseed_cells {d0 d1 : Value} {m : Nat} {y : DataW H × List MemPlace} (h : DataW.trod enc Tryz.prog w 0 (fun _ => true) true m 98 [d0, d1] = some y) {B : Nat} (hw : ∀ k ∈ y.1.weights Tryz.prog 98, k ≤ B) :
    ∃ s : LSeed, d0 = .int .i64 s.d ∧ I64 s.d ∧ GRow w d1 s.ls.length (s.ls.map (Value.int .i64)) ∧ ∀ n ∈ s.ls, I64 n := by
  obtain ⟨_, n, hg⟩ := struct_w Tryz.underlying98 h hw
  obtain ⟨y0, g0, _⟩ := hg 0 _ 0 1 _ rfl rfl rfl (by kernel_rfl)
  obtain ⟨y1, g1, w1⟩ := hg 1 _ 1 1 _ rfl rfl rfl (by kernel_rfl)
  obtain ⟨x0, rfl, h0⟩ := i64_cell (by kernel_rfl) g0
  obtain ⟨l, h1, h2, _⟩ := ints_in g1 w1
  exact ⟨⟨x0, l⟩, rfl, h0, h1, h2⟩
set_option maxRecDepth 100000 in
theorem seed_cells {cs : List Value} {m : Nat} {y : DataW H × List MemPlace} (hl : cs.length = 12) (h : DataW.trod enc Tryz.prog w 0 (fun _ => true) true m 101 cs = some y) (hw : ∀ k ∈ y.1.weights Tryz.prog 101, k ≤ reachBytes) :
    ∃ q : OSeed × OSl, q.1.bd ∧ SeedV w q.1 q.2 ∧ cs = seedC q.1 q.2 := by
  obtain ⟨_, n, hg⟩ := struct_w Tryz.underlying101 h hw
  match cs, hl with
  | [d0, d1, d2, d3, d4, d5, d6, d7, d8, d9, d10, d11], _ =>
    obtain ⟨y0, g0, w0⟩ := hg 0 _ 0 1 _ rfl rfl rfl (by kernel_rfl)
    obtain ⟨y1, g1, w1⟩ := hg 1 _ 1 1 _ rfl rfl rfl (by kernel_rfl)
    obtain ⟨y2, g2, w2⟩ := hg 2 _ 2 2 _ rfl rfl rfl (by kernel_rfl)
    obtain ⟨y3, g3, w3⟩ := hg 3 _ 4 2 _ rfl rfl rfl (by kernel_rfl)
    obtain ⟨y4, g4, w4⟩ := hg 4 _ 6 1 _ rfl rfl rfl (by kernel_rfl)
    obtain ⟨y5, g5, w5⟩ := hg 5 _ 7 1 _ rfl rfl rfl (by kernel_rfl)
    obtain ⟨y6, g6, w6⟩ := hg 6 _ 8 1 _ rfl rfl rfl (by kernel_rfl)
    obtain ⟨y7, g7, w7⟩ := hg 7 _ 9 1 _ rfl rfl rfl (by kernel_rfl)
    obtain ⟨y8, g8, w8⟩ := hg 8 _ 10 1 _ rfl rfl rfl (by kernel_rfl)
    obtain ⟨y9, g9, w9⟩ := hg 9 _ 11 1 _ rfl rfl rfl (by kernel_rfl)
    obtain ⟨x0, rfl, h0⟩ := i64_cell (by kernel_rfl) g0
    obtain ⟨x1, rfl, h1⟩ := i64_cell (by kernel_rfl) g1
    obtain ⟨s2, rfl, h2a, h2b, h2c⟩ := lseed_cells g2 w2
    obtain ⟨s3, rfl, h3a, h3b, h3c⟩ := lseed_cells g3 w3
    obtain ⟨x4, rfl, h4⟩ := i64_cell (by kernel_rfl) g4
    obtain ⟨x5, rfl, h5⟩ := i64_cell (by kernel_rfl) g5
    obtain ⟨l6, h6a, h6b⟩ := bytes_in g6 w6
    obtain ⟨l7, h7a, h7b, h7c⟩ := maps_in g7 w7
    obtain ⟨x8, rfl, h8⟩ := i64_cell (by kernel_rfl) g8
    obtain ⟨x9, rfl, h9⟩ := i64_cell (by kernel_rfl) g9
    have hr : reachBytes ≤ 140737488355328 := by decide
    exact ⟨(⟨x0, x1, s2, s3, x4, x5, l6, l7, x8, x9⟩, ⟨d3, d5, d8, d9⟩), ⟨h0, h1, h4, h5, h8, h9, h2a, h3a, h2c, h3c, h7b, ⟨Nat.le_trans h6b hr, Nat.le_trans h7c hr⟩⟩, ⟨h2b, h3b, h6a, h7a⟩, rfl⟩
theorem seeds_in {fuel : Nat} {v : Value} {y : DataW H × List MemPlace} (h : DataW.trod enc Tryz.prog w 0 (fun _ => true) true fuel 52 [v] = some y) (hw : ∀ k ∈ y.1.weights Tryz.prog 52, k ≤ reachBytes) :
    ∃ (l : List OSeed) (Q : Nat → OSl), SeedsIn w v l Q ∧ (∀ s ∈ l, s.bd) ∧ l.length ≤ reachBytes := by
  obtain ⟨a, len, cap, rfl, hl, hm, hB, b, off, hab, hj⟩ := slice_w (n := 12) Tryz.underlying52 (by kernel_rfl) (by decide) (by decide +kernel) h hw
  obtain ⟨L, hLl, hg, hcl⟩ := list_of (α := OSeed × OSl) (w := w) 12 b off len (fun q => seedC q.1 q.2) (fun q => q.1.bd ∧ SeedV w q.1 q.2) (fun j hjl => by
    obtain ⟨cs, h1, h2, m, y', h3, h4⟩ := hj j hjl
    obtain ⟨q, hq1, hq2, rfl⟩ := seed_cells h1 h3 h4
    exact ⟨q, ⟨hq1, hq2⟩, h2⟩)
  have hat : ∀ (j : Nat) (s : OSeed), (L.map (·.1))[j]? = some s → ∃ q, L[j]? = some (s, q) ∧ (L.getD j default).2 = q := fun j s hs => by
    rw [List.getElem?_map] at hs
    cases hL : L[j]? with
    | none => rw [hL] at hs; cases hs
    | some x =>
      rw [hL] at hs
      cases hs
      exact ⟨x.2, rfl, by rw [List.getD, hL]; rfl⟩
  refine ⟨L.map (·.1), fun j => (L.getD j default).2, ⟨fun j s hs => ?_, a, cap, by rw [List.length_map, hLl], by rw [List.length_map]; omega, hm, ?_⟩, fun s hs => ?_, by rw [List.length_map]; omega⟩
  · obtain ⟨q, h1, h2⟩ := hat j s hs
    simp only [h2]
    exact (hg _ (List.mem_of_getElem? h1)).2
  · by_cases h0 : len = 0
    · exact .inl (by rw [List.length_map]; omega)
    · obtain ⟨e, hlt⟩ := hab (by omega)
      refine .inr ⟨b, off, e, hlt, fun j s hs i hi => ?_⟩
      obtain ⟨q, h1, h2⟩ := hat j s hs
      simp only [h2]
      exact hcl j _ h1 i hi
  · obtain ⟨x, hx, rfl⟩ := List.mem_map.1 hs
    exact (hg x hx).1
set_option maxRecDepth 100000 in
theorem open_plan {b0 : Nat} {r : Reach} {v : Value} {d : DataW H} {p : List MemPlace} (hv : Value.okWide Tryz.prog w r b0 54 v) (h : DataW.Trod enc Tryz.prog w 0 (fun _ => true) true 54 v d p)
    (hw : ∀ k ∈ d.weights Tryz.prog 54, k ≤ reachBytes) : ∃ q : WPlan, PlanIn w v q ∧ q.bd := by
  obtain ⟨cs, rfl, hsz⟩ := okWide_struct Tryz.underlying54 hv
  obtain ⟨l⟩ := cs
  have hl : l.length = 5 := hsz.trans (by kernel_rfl)
  obtain ⟨fuel, hf⟩ := h
  have hf : DataW.trod enc Tryz.prog w 0 (fun _ => true) true fuel 54 l = some (d, p) := hf
  obtain ⟨_, n, hg⟩ := struct_w Tryz.underlying54 hf hw
  match l, hl with
  | [d0, d1, d2, d3, d4], _ =>
    obtain ⟨y0, g0, w0⟩ := hg 0 _ 0 1 _ rfl rfl rfl (by kernel_rfl)
    obtain ⟨y1, g1, w1⟩ := hg 1 _ 1 1 _ rfl rfl rfl (by kernel_rfl)
    obtain ⟨y2, g2, w2⟩ := hg 2 _ 2 1 _ rfl rfl rfl (by kernel_rfl)
    obtain ⟨y3, g3, w3⟩ := hg 3 _ 3 1 _ rfl rfl rfl (by kernel_rfl)
    obtain ⟨y4, g4, w4⟩ := hg 4 _ 4 1 _ rfl rfl rfl (by kernel_rfl)
    obtain ⟨x0, rfl, h0⟩ := i64_cell (by kernel_rfl) g0
    obtain ⟨x1, rfl, h1⟩ := i64_cell (by kernel_rfl) g1
    obtain ⟨x2, rfl, h2⟩ := i64_cell (by kernel_rfl) g2
    obtain ⟨ss, h3a, h3b, h3c⟩ := slots_in g3 w3
    obtain ⟨sl, Q, h4a, h4b, h4c⟩ := seeds_in g4 w4
    have hr : reachBytes ≤ 140737488355328 := by decide
    exact ⟨⟨x0, x1, x2, ss, sl⟩, ⟨d3, d4, Q, rfl, h3a, h4a⟩, ⟨⟨h0, h1, h2⟩, h3b, h4b, ⟨Nat.le_trans h3c hr, Nat.le_trans h4c hr⟩⟩⟩
end
end Go.Proofs.YtjjnidbggoaonaaGreatDoor
