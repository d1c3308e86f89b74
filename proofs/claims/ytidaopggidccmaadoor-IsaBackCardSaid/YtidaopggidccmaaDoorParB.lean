/- isa.Parse as a plain function; what is parsed is an instruction whose text it is. -/
import Derived.Test.YtidaopggidccmaaDoorParA
import Derived.Test.YtidaopggidccmaaDoorIsaD
import Derived.Test.YtidaopggidccmaaDoorIsaT
import Derived.Lib.Join
namespace Go.Proofs.YtidaopggidccmaaDoor
open Go.RowKit

theorem lens_app (a b : List (List UInt8)) : Lib.lens (a ++ b) = Lib.lens a + Lib.lens b := by simp [Lib.lens]
theorem lens_cur (cur : List UInt8) : Lib.lens (if cur = [] then [] else [cur]) ≤ cur.length := by
  split <;> simp [Lib.lens]
theorem fields_lens : ∀ (f : Nat) (cur l : List UInt8), Lib.lens (Lib.fieldsGoD f cur l) ≤ cur.length + l.length
  | 0, cur, l => by
    unfold Lib.fieldsGoD
    have := lens_cur cur
    omega
  | f + 1, cur, l => by
    unfold Lib.fieldsGoD
    have h0 := lens_cur cur
    have h1 : (l.take (Lib.decodeL l).2).length + (l.drop (Lib.decodeL l).2).length = l.length := by
      rw [← List.length_append, List.take_append_drop]
    split
    · omega
    · split
      · rw [lens_app]
        have := fields_lens f [] (l.drop (Lib.decodeL l).2)
        simp only [List.length_nil] at this
        omega
      · have := fields_lens f (cur ++ l.take (Lib.decodeL l).2) (l.drop (Lib.decodeL l).2)
        rw [List.length_append] at this
        omega
theorem fieldsD_lens (l : List UInt8) : Lib.lens (Lib.fieldsD l) ≤ l.length := by
  have := fields_lens (l.length + 1) [] l
  unfold Lib.fieldsD
  simpa using this

/-- The operation of a name: 0 where there is none. -/
def opOf (n : List UInt8) : Int := ((List.range 43).find? fun k => nm k == n).elim 0 fun k => (k : Int) + 1
theorem opOf_yes {n : List UInt8} {k : Nat} (hk : k < 43) (h : nm k = n) : opOf n = (k : Int) + 1 := by
  unfold opOf
  rcases e : (List.range 43).find? (fun k => nm k == n) with _ | j
  · have := List.find?_eq_none.1 e k (List.mem_range.2 hk)
    simp [h] at this
  · have h1 := List.find?_some e
    have h2 := List.mem_range.1 (List.mem_of_find?_eq_some e)
    have h3 : nm j = n := by simpa using h1
    have : j = k := names_inj j k h2 hk (h3.trans h.symm)
    subst this; rfl
theorem opOf_no {n : List UInt8} (h : ∀ k, k < 43 → nm k ≠ n) : opOf n = 0 := by
  unfold opOf
  rw [List.find?_eq_none.2 (fun k hk => by simpa using h k (List.mem_range.1 hk))]
  rfl
theorem opOf_pos {n : List UInt8} (h : 1 ≤ opOf n) : ∃ k, k < 43 ∧ nm k = n ∧ opOf n = (k : Int) + 1 := by
  by_cases hx : ∃ k, k < 43 ∧ nm k = n
  · obtain ⟨k, hk, e⟩ := hx
    exact ⟨k, hk, e, opOf_yes hk e⟩
  · rw [opOf_no (fun k hk e => hx ⟨k, hk, e⟩)] at h
    omega

/-- A register's word. -/
def regO (t : List UInt8) : Option Int := (atoiO (Lib.trimPrefix t [114])).bind fun v => if t = 114 :: Lib.itoa v then some v else none
/-- The last word. -/
def numO (t : List UInt8) : Option Int := (pintO t).bind fun v => if Lib.itoa v = t then some v else none
theorem regO_some {t : List UInt8} {v : Int} (h : regO t = some v) : t = 114 :: Lib.itoa v := by
  unfold regO at h
  rcases e : atoiO (Lib.trimPrefix t [114]) with _ | u
  · rw [e] at h; cases h
  · rw [e] at h
    simp only [Option.bind_some] at h
    split at h
    · cases h; assumption
    · cases h
theorem numO_some {t : List UInt8} {v : Int} (h : numO t = some v) : t = Lib.itoa v ∧ -2147483648 ≤ v ∧ v ≤ 2147483647 := by
  unfold numO at h
  rcases e : pintO t with _ | u
  · rw [e] at h; cases h
  · rw [e] at h
    simp only [Option.bind_some] at h
    split at h
    · rename_i hi
      cases h
      exact ⟨hi.symm, pintO_bd e⟩
    · cases h

/-- The last test: may it be an instruction? -/
def rightO (x : Ins) : Option Ins := if x.right = true then some x else none
/-- Five words. -/
def parse5 (t0 t1 t2 t3 t4 : List UInt8) : Option Ins :=
  (regO t1).bind fun a => (regO t2).bind fun b => (regO t3).bind fun c => (numO t4).bind fun n => rightO ⟨opOf t0, a, b, c, n⟩
def parseW : List (List UInt8) → Option Ins
  | [t0, t1, t2, t3, t4] => parse5 t0 t1 t2 t3 t4
  | _ => none
def parse (l : List UInt8) : Option Ins := if Lib.join (Lib.fieldsD l) [32] = l then parseW (Lib.fieldsD l) else none
def parV : Option Ins → Value
  | none => .tuple #[ins0, .bool false]
  | some x => .tuple #[x.v, .bool true]

theorem parse5_some {t0 t1 t2 t3 t4 : List UInt8} {x : Ins} (h : parse5 t0 t1 t2 t3 t4 = some x) :
    x.right = true ∧ x.text = t0 ++ [32] ++ t1 ++ [32] ++ t2 ++ [32] ++ t3 ++ [32] ++ t4 ∧ -2147483648 ≤ x.imm ∧ x.imm ≤ 2147483647 := by
  unfold parse5 at h
  rcases e1 : regO t1 with _ | a <;> rw [e1] at h
  · cases h
  rcases e2 : regO t2 with _ | b <;> rw [e2] at h
  · cases h
  rcases e3 : regO t3 with _ | c <;> rw [e3] at h
  · cases h
  rcases e4 : numO t4 with _ | n <;> rw [e4] at h
  · cases h
  simp only [Option.bind_some, rightO] at h
  split at h
  · rename_i hr
    cases h
    have r1 := regO_some e1
    have r2 := regO_some e2
    have r3 := regO_some e3
    obtain ⟨r4, b0, b1⟩ := numO_some e4
    refine ⟨hr, ?_, b0, b1⟩
    obtain ⟨⟨ho, _⟩, _⟩ := Ins.right_spec hr
    obtain ⟨k, _, hn, ek⟩ := opOf_pos ho
    unfold Ins.text
    rw [if_pos hr]
    simp only [ek, show ((k : Int) + 1).toNat - 1 = k by omega, hn]
    rw [r1, r2, r3, ← r4]
    simp
  · cases h
theorem parse_some {l : List UInt8} {x : Ins} (h : parse l = some x) : x.right = true ∧ x.text = l ∧ -2147483648 ≤ x.imm ∧ x.imm ≤ 2147483647 := by
  unfold parse at h
  split at h
  · rename_i hj
    rcases hf : Lib.fieldsD l with _ | ⟨t0, _ | ⟨t1, _ | ⟨t2, _ | ⟨t3, _ | ⟨t4, _ | ⟨t5, r⟩⟩⟩⟩⟩⟩ <;> rw [hf] at h hj <;> simp only [parseW] at h <;> try cases h
    obtain ⟨h1, h2, h3⟩ := parse5_some h
    refine ⟨h1, h2.trans ?_, h3⟩
    rw [← hj]
    simp [Lib.join_cons, Lib.joinTail]
  · cases h
end Go.Proofs.YtidaopggidccmaaDoor
