/- What the library's functions give that isa.Parse calls; parse, as a plain function. -/
import Derived.Test.YtidaopggidccmaaDoorIsaF
import Derived.Test.YtidaopggidccmaaDoorShelfC
import Derived.Lib.AtoiErrMem
import Derived.Lib.AtoiAllCases
import Derived.Lib.ParseIntBTie
namespace Go.Proofs.YtidaopggidccmaaDoor
open Go.RowKit

/-- A variable that holds an error, or none. -/
def HasErr (g : Nat) (w : World) : Prop := ∃ ev, w.cell? ⟨g, 0, none⟩ = some ev ∧ (ev = .nilIface ∨ ∃ te pe, ev = .iface te pe)
theorem HasErr.below {g : Nat} {w w' : World} (h : HasErr g w) (hb : Below w.heap.size w w') : HasErr g w' := by
  obtain ⟨ev, h1, h2⟩ := h
  exact ⟨ev, by rw [hb.cell (p := ⟨g, 0, none⟩) (cell_lt h1)]; exact h1, h2⟩
def HasWhite (w : World) : Prop := Lib.WhiteTab 1 w
theorem HasWhite.below {w w' : World} (h : HasWhite w) (hb : Below w.heap.size w w') : HasWhite w' := WhiteTab_below h hb
/-- All that Parse reads of the library's variables. -/
structure HasPar (w : World) : Prop where
  pow : HasPow w
  sp : HasSp w
  white : HasWhite w
  es : HasErr 2 w
  er : HasErr 3 w
theorem HasPar.below {w w' : World} (h : HasPar w) (hb : Below w.heap.size w w') : HasPar w' :=
  ⟨h.pow.below hb, h.sp.below hb, h.white.below hb, h.es.below hb, h.er.below hb⟩

/-- A number and an error: the error is nil just if the number is n. -/
def NumErr (n : Option Int) (v : Value) : Prop := (∃ x, n = some x ∧ v = .tuple #[.int .i64 x, .nilIface]) ∨ n = none ∧ ∃ y t b, v = .tuple #[.int .i64 y, .iface t (.pointer (some ⟨b, 0, none⟩))]
def endOk : Lib.NumEnd Int → Option Int
  | .ok v => some v
  | _ => none
def atoiO (l : List UInt8) : Option Int := endOk (Lib.atoiAll l)
def pintO (l : List UInt8) : Option Int := endOk (Lib.parseIntB 32 l)
theorem atoiO_bd {l : List UInt8} {v : Int} (h : atoiO l = some v) : -9223372036854775808 ≤ v ∧ v ≤ 9223372036854775807 := by
  unfold atoiO at h
  rcases e : Lib.atoiAll l with x | _ | _ <;> rw [e] at h <;> simp [endOk] at h
  subst h
  exact Lib.atoiAll_bounds e
theorem pintO_bd {l : List UInt8} {v : Int} (h : pintO l = some v) : -2147483648 ≤ v ∧ v ≤ 2147483647 := by
  unfold pintO at h
  rcases e : Lib.parseIntB 32 l with x | _ | _ <;> rw [e] at h <;> simp [endOk] at h
  subst h
  have := Lib.parseIntB_bounds e
  simp at this
  omega

theorem atoi_any (l : List UInt8) (hl : l.length ≤ 100000) (w : World) (h : HasPar w) :
    Calls Tryd.prog 29 #[S l] w fun e w' => ∃ v, e = .returned v ∧ NumErr (atoiO l) v ∧ Below w.heap.size w w' := by
  have hs : (⟨l.toArray⟩ : ByteArray).size = l.length := by show l.toArray.size = _; simp
  have hd : (⟨l.toArray⟩ : ByteArray).data.toList = l := by simp
  obtain ⟨ev, hv, he⟩ := h.es
  obtain ⟨ev', hv', he'⟩ := h.er
  unfold atoiO
  rcases e : Lib.atoiAll l with v | _ | _
  · refine (Any.strconv_Atoi_ok Tryd.laysC172 ⟨l.toArray⟩ (by omega) v (by rw [hd]; exact e) w).mono ?_
    rintro _ w' ⟨rfl, hw⟩
    refine ⟨_, rfl, .inl ⟨v, rfl, rfl⟩, ?_⟩
    rcases hw with rfl | ⟨t, rfl⟩
    · exact Below.refl _ _
    · exact Lib.bytesWorld_below _ _ _
  · refine (Any.strconv_Atoi_syntax Tryd.laysC172 ⟨l.toArray⟩ (by omega) (by rw [hd]; exact e) ev w hv he).mono ?_
    rintro _ w' ⟨N, rfl, _, _, hb⟩
    exact ⟨_, rfl, .inr ⟨rfl, _, _, _, rfl⟩, hb⟩
  · refine (Any.strconv_Atoi_range Tryd.laysC172 ⟨l.toArray⟩ (by omega) (by rw [hd]; exact e) ev' w hv' he').mono ?_
    rintro _ w' ⟨N, rfl, _, _, hb⟩
    exact ⟨_, rfl, .inr ⟨rfl, _, _, _, rfl⟩, hb⟩
theorem pint_any (l : List UInt8) (hl : l.length ≤ 100000) (w : World) (h : HasPar w) :
    Calls Tryd.prog 31 #[S l, .int .i64 10, .int .i64 32] w fun e w' => ∃ v, e = .returned v ∧ NumErr (pintO l) v ∧ Below w.heap.size w w' := by
  have hs : (⟨l.toArray⟩ : ByteArray).size = l.length := by show l.toArray.size = _; simp
  have hd : (⟨l.toArray⟩ : ByteArray).data.toList = l := by simp
  obtain ⟨ev, hv, he⟩ := h.es
  obtain ⟨ev', hv', he'⟩ := h.er
  unfold pintO
  rcases e : Lib.parseIntB 32 l with v | _ | _
  · refine (Any.strconv_ParseInt_10_at32_ok Tryd.laysC174 ⟨l.toArray⟩ (by omega) v (by rw [hd]; exact e) w).mono ?_
    rintro _ w' ⟨rfl, hw⟩
    refine ⟨_, rfl, .inl ⟨v, rfl, rfl⟩, ?_⟩
    rcases hw with rfl | ⟨t, rfl⟩
    · exact Below.refl _ _
    · exact Lib.bytesWorld_below _ _ _
  · refine (Any.strconv_ParseInt_10_at32_syntax Tryd.laysC174 ⟨l.toArray⟩ (by omega) (by rw [hd]; exact e) ev w hv he).mono ?_
    rintro _ w' ⟨N, rfl, _, _, hb⟩
    exact ⟨_, rfl, .inr ⟨rfl, _, _, _, rfl⟩, hb⟩
  · refine (Any.strconv_ParseInt_10_at32_range Tryd.laysC174 ⟨l.toArray⟩ (by omega) (by rw [hd]; exact e) ev' w hv' he').mono ?_
    rintro _ w' ⟨N, rfl, _, _, hb⟩
    exact ⟨_, rfl, .inr ⟨rfl, _, _, _, rfl⟩, hb⟩

/-- Words of a text, in memory: five of them, or another number. -/
theorem fields_any (l : List UInt8) (hl : l.length ≤ 100000) (w : World) (h : HasPar w) :
    Calls Tryd.prog 24 #[S l] w fun e w' => ∃ b, e = .returned (.slice (some ⟨b, 0, none⟩) (Lib.fieldsD l).length (Lib.fieldsD l).length) ∧ b < w'.heap.size ∧ w.heap.size ≤ b ∧ (∀ j x, (Lib.fieldsD l)[j]? = some x → w'.cell? ⟨b, j, none⟩ = some (S x)) ∧ Below w.heap.size w w' := by
  have hs : (⟨l.toArray⟩ : ByteArray).size = l.length := by show l.toArray.size = _; simp
  have hd : (⟨l.toArray⟩ : ByteArray).data.toList = l := by simp
  refine (Tryd.strings_Fields_any ⟨l.toArray⟩ w (by omega) h.sp h.white).mono ?_
  rw [hd]
  rintro _ w' ⟨b, rfl, hb, ho, hw⟩
  refine ⟨b, rfl, (ho.lt b rfl).2, hb, fun j x hx => ?_, hw⟩
  have := ho.cells (g := b) rfl j (S x) (by rw [List.getElem?_map, hx]; rfl)
  rwa [Addr.add_lit, Nat.zero_add] at this
theorem trim_any (l : List UInt8) (w : World) :
    Calls Tryd.prog 30 #[S l, .string ⟨#[114]⟩] w fun e w' => e = .returned (S (Lib.trimPrefix l [114])) ∧ w' = w := by
  refine (Tryd.strings_TrimPrefix ⟨l.toArray⟩ ⟨#[114]⟩ w).mono ?_
  rintro _ w' ⟨rfl, rfl⟩
  exact ⟨by simp, rfl⟩
theorem join_any (b : Nat) (xs : List (List UInt8)) (w : World) (hc : ∀ j x, xs[j]? = some x → w.cell? ⟨b, j, none⟩ = some (S x)) (hb : b < w.heap.size) (hn : xs.length ≤ 100) (hlen : (Lib.join xs [32]).length ≤ 140737488355328) :
    Calls Tryd.prog 28 #[.slice (some ⟨b, 0, none⟩) xs.length xs.length, .string ⟨#[32]⟩] w fun e w' => e = .returned (S (Lib.join xs [32])) ∧ Below w.heap.size w w' := by
  have hm : (xs.map fun x => (⟨x.toArray⟩ : ByteArray)).map (·.data.toList) = xs := by
    rw [List.map_map]
    have : (fun x : List UInt8 => (⟨x.toArray⟩ : ByteArray).data.toList) = id := by funext x; simp
    show xs.map (fun x : List UInt8 => (⟨x.toArray⟩ : ByteArray).data.toList) = xs
    rw [this, List.map_id]
  have := Tryd.strings_Join b 0 xs.length (xs.map fun x => (⟨x.toArray⟩ : ByteArray)) ⟨#[32]⟩ w (fun j x hx => by
    rw [List.getElem?_map] at hx
    rcases hj : xs[j]? with _ | y
    · rw [hj] at hx; cases hx
    · rw [hj] at hx
      obtain rfl : (⟨y.toArray⟩ : ByteArray) = x := by simpa using hx
      rw [Nat.zero_add]
      exact hc j y hj) hb (by simp; omega) (by simp) (by rw [hm]; exact hlen)
  rw [hm, List.length_map] at this
  exact this
end Go.Proofs.YtidaopggidccmaaDoor
