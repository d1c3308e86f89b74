/- What the library's functions give that trace.Parse calls. -/
import Derived.Test.YtjjnidbggoaonaaDoorTrE
import Derived.Test.YtjjnidbggoaonaaDoorShelfB
import Derived.Lib.AtoiErrMem
import Derived.Lib.AtoiAllCases
import Derived.Lib.ParseIntBTie
import Derived.Shelf.Strconv.ParseUint10At
namespace Go.Proofs.YtjjnidbggoaonaaDoor
open Go.RowKit
attribute [local irreducible] World.setCell World.alloc World.drew Calls Code.wp

/-- A variable that holds an error, or none. -/
def HasErr (g : Nat) (w : World) : Prop := ∃ ev, w.cell? ⟨g, 0, none⟩ = some ev ∧ (ev = .nilIface ∨ ∃ te pe, ev = .iface te pe)
theorem HasErr.below {g : Nat} {w w' : World} (h : HasErr g w) (hb : Below w.heap.size w w') : HasErr g w' := by
  obtain ⟨ev, h1, h2⟩ := h
  exact ⟨ev, by rw [hb.cell (p := ⟨g, 0, none⟩) (cell_lt h1)]; exact h1, h2⟩
/-- The cell of bytealg.MaxLen holds some number. -/
def HasMax (w : World) : Prop := ∃ m, w.cell? ⟨5, 0, none⟩ = some (.int .i64 m)
theorem HasMax.below {w w' : World} (h : HasMax w) (hb : Below w.heap.size w w') : HasMax w' := by
  obtain ⟨m, hm⟩ := h
  exact ⟨m, by rw [hb.cell (p := ⟨_, 0, none⟩) (cell_lt hm)]; exact hm⟩
/-- All that Parse reads of the library's variables. -/
structure HasTr (w : World) : Prop where
  pow : HasPow w
  sp : HasSp w
  es : HasErr 3 w
  er : HasErr 4 w
  mx : HasMax w
theorem HasTr.below {w w' : World} (h : HasTr w) (hb : Below w.heap.size w w') : HasTr w' :=
  ⟨h.pow.below hb, h.sp.below hb, h.es.below hb, h.er.below hb, h.mx.below hb⟩

/-- A number and an error: the error is nil just if the number is n. -/
def NumErr (k : IntKind) (n : Option Int) (v : Value) : Prop := (∃ x, n = some x ∧ v = .tuple #[.int k x, .nilIface]) ∨ n = none ∧ ∃ y t b, v = .tuple #[.int k y, .iface t (.pointer (some ⟨b, 0, none⟩))]
def endOk : Lib.NumEnd Int → Option Int
  | .ok v => some v
  | _ => none
def endNat : Lib.NumEnd Nat → Option Int
  | .ok v => some (v : Int)
  | _ => none
def atoiO (l : List UInt8) : Option Int := endOk (Lib.atoiAll l)
def uintO (l : List UInt8) : Option Int := endNat (Lib.parseUintB 64 l)
theorem atoiO_bd {l : List UInt8} {v : Int} (h : atoiO l = some v) : -9223372036854775808 ≤ v ∧ v ≤ 9223372036854775807 := by
  unfold atoiO at h
  rcases e : Lib.atoiAll l with x | _ | _ <;> rw [e] at h <;> simp [endOk] at h
  subst h
  exact Lib.atoiAll_bounds e
theorem atoi_any (l : List UInt8) (hl : l.length ≤ 100000) (w : World) (h : HasTr w) :
    Calls Tryd.prog 14 #[S l] w fun e w' => ∃ v, e = .returned v ∧ NumErr .i64 (atoiO l) v ∧ Below w.heap.size w w' := by
  have hs : (⟨l.toArray⟩ : ByteArray).size = l.length := by show l.toArray.size = _; simp
  have hd : (⟨l.toArray⟩ : ByteArray).data.toList = l := by simp
  obtain ⟨ev, hv, he⟩ := h.es
  obtain ⟨ev', hv', he'⟩ := h.er
  unfold atoiO
  rcases e : Lib.atoiAll l with v | _ | _
  · refine (Any.strconv_Atoi_ok Tryd.laysC172 ⟨l.toArray⟩ (by omega) v (by rw [hd]; exact e) w).mono ?_
    rintro _ w' ⟨rfl, hw⟩
    refine ⟨_, rfl, .inl ⟨v, rfl, rfl⟩, ?_⟩
    rcases hw with rfl | ⟨t, rfl⟩
    · exact Below.refl _ _
    · exact Lib.bytesWorld_below _ _ _
  · refine (Any.strconv_Atoi_syntax Tryd.laysC172 ⟨l.toArray⟩ (by omega) (by rw [hd]; exact e) ev w hv he).mono ?_
    rintro _ w' ⟨N, rfl, _, _, hb⟩
    exact ⟨_, rfl, .inr ⟨rfl, _, _, _, rfl⟩, hb⟩
  · refine (Any.strconv_Atoi_range Tryd.laysC172 ⟨l.toArray⟩ (by omega) (by rw [hd]; exact e) ev' w hv' he').mono ?_
    rintro _ w' ⟨N, rfl, _, _, hb⟩
    exact ⟨_, rfl, .inr ⟨rfl, _, _, _, rfl⟩, hb⟩

set_option maxRecDepth 100000 in
set_option maxHeartbeats 1000000 in
theorem uint_any (l : List UInt8) (hl : l.length ≤ 100000) (w : World) (h : HasTr w) :
    Calls Tryd.prog 15 #[S l, .int .i64 10, .int .i64 64] w fun e w' => ∃ v, e = .returned v ∧ NumErr .u64 (uintO l) v ∧ Below w.heap.size w w' := by
  have hs : (⟨l.toArray⟩ : ByteArray).size = l.length := by show l.toArray.size = _; simp
  have hd : (⟨l.toArray⟩ : ByteArray).data.toList = l := by simp
  have hin := Any.internal_strconv_ParseUint_10_at64 Tryd.lays287 ⟨l.toArray⟩ (by omega) w
  rw [hd] at hin
  have Hin := Lib.hid hin; have H := Lib.hid h
  have hlim : (⟨l.toArray⟩ : ByteArray).size ≤ 281474976710656 := by omega
  have Hlim := Lib.hid hlim
  clear hin h hlim hs hd
  unfold uintO
  go_enter Tryd.func15, Tryd.ntmps15
  go_wp2_with fail
  refine Hin.out.mono ?_
  rintro e w1 ⟨rfl, hw1⟩
  have HB : Hid (Below w.heap.size w w1) := by
    rcases hw1 with rfl | rfl
    · exact Below.refl _ _
    · exact Lib.bytesWorld_below _ _ _
  clear hw1
  obtain ⟨ev, hv, he⟩ := (H.out.es.below HB.out)
  obtain ⟨ev', hv', he'⟩ := (H.out.er.below HB.out)
  have Hv := Lib.hid hv; have Hv' := Lib.hid hv'; have He := Lib.hid he; have He' := Lib.hid he'
  clear hv hv' he he'
  rcases hpe : Lib.parseUintB 64 l with v | _ | _
  all_goals (have Hpe := Lib.hid hpe; clear hpe)
  · unfold Lib.uintTupleM
    go_wp2_with fail
    go_ret2
    exact ⟨_, rfl, .inl ⟨_, by rw [Hpe.out]; rfl, rfl⟩, HB.out⟩
  · unfold Lib.uintTupleM
    go_wp2_with fail
    refine (Any.strconv_toError_syntax Tryd.laysC245 _ ⟨l.toArray⟩ 10 64 ev _ Hlim.out Hv.out He.out).mono ?_
    rintro _ w2 ⟨M, rfl, _, _, hb⟩
    have HB2 := Lib.hid (bel_from HB.out hb); clear hb
    go_wp2_with fail
    go_ret2
    exact ⟨_, rfl, .inr ⟨by rw [Hpe.out]; rfl, _, _, _, rfl⟩, HB2.out⟩
  · unfold Lib.uintTupleM
    go_wp2_with fail
    refine (Any.strconv_toError_range Tryd.laysC245 _ ⟨l.toArray⟩ 10 64 ev' _ Hlim.out Hv'.out He'.out).mono ?_
    rintro _ w2 ⟨M, rfl, _, _, hb⟩
    have HB2 := Lib.hid (bel_from HB.out hb); clear hb
    go_wp2_with fail
    go_ret2
    exact ⟨_, rfl, .inr ⟨by rw [Hpe.out]; rfl, _, _, _, rfl⟩, HB2.out⟩
end Go.Proofs.YtjjnidbggoaonaaDoor
