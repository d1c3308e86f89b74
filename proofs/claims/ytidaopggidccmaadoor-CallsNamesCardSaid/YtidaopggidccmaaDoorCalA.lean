/- The calls: their names and registers as the program's constant has them; regs and calls.Of. -/
import Derived.Test.YtidaopggidccmaaDoorIsaN
import Derived.Test.YtidaopggidccmaaDoorShelfB
import Derived.Test.YtidaopggidccmaaDoorMap
import Derived.Lib.OthersKept
import Derived.Shelf.Vars
namespace Go.Proofs.YtidaopggidccmaaDoor
open Go.RowKit
attribute [local irreducible] World.setCell World.alloc World.drew Calls Code.wp

/-! ### Digits in memory -/
/-- Numbers that lie somewhere below the heap's end: the slice v holds l. -/
def Dig (B : Nat) (w : World) (v : Value) (l : List Nat) : Prop :=
  ∃ x c, v = .slice x l.length c ∧ ((x = none ∧ l = [] ∧ c = 0) ∨ ∃ b, x = some ⟨b, 0, none⟩ ∧ B ≤ b ∧ b < w.heap.size ∧ ∀ j, j < l.length → w.cell? ⟨b, j, none⟩ = some (.int .i64 (l.getD j 0)))
theorem Dig.mono {B B' : Nat} {w : World} {v : Value} {l : List Nat} (h : Dig B w v l) (hB : B' ≤ B) : Dig B' w v l := by
  obtain ⟨x, c, rfl, h⟩ := h
  exact ⟨x, c, rfl, h.imp id fun ⟨b, h0, h1, h2⟩ => ⟨b, h0, by omega, h2⟩⟩
theorem Dig.kept {S : Nat → Prop} {B : Nat} {w w' : World} {v : Value} {l : List Nat} (h : Dig B w v l) (k : Kept S w w') (hS : ∀ b, B ≤ b → ¬ S b) : Dig B w' v l := by
  obtain ⟨x, c, rfl, h⟩ := h
  refine ⟨x, c, rfl, h.imp id ?_⟩
  rintro ⟨b, rfl, h0, h1, h2⟩
  refine ⟨b, rfl, h0, Nat.lt_of_lt_of_le h1 k.size, fun j hj => ?_⟩
  rw [← h2 j hj]
  exact World.cell?_of_block (a := ⟨b, j, none⟩) (k.block b h1 (hS b h0))
theorem Dig.below {B : Nat} {w w' : World} {v : Value} {l : List Nat} (h : Dig B w v l) (hb : Below w.heap.size w w') : Dig B w' v l :=
  h.kept (S := fun _ => False) (Kept.of_below hb) (fun _ _ h => h)
theorem own_dig {w : World} {base E : Nat} {v : Value} {l : List Nat} (h : w.ownsRow base E 1 v l.length (l.map fun x : Nat => Value.int .i64 (x : Int))) : Dig base w v l := by
  have hlt := h.lt
  rcases h.2 with ⟨rfl, h0⟩ | ⟨g, cap, cur, rfl, _, hh, _⟩
  · obtain rfl : l = [] := List.eq_nil_of_length_eq_zero h0
    exact ⟨_, _, rfl, .inl ⟨rfl, rfl, rfl⟩⟩
  · refine ⟨_, _, rfl, .inr ⟨g, rfl, (hlt g rfl).1, (Array.getElem?_eq_some_iff.1 hh).1, fun j hj => ?_⟩⟩
    rw [h.cellAt j (by omega)]
    simp [hj, List.getD]

/-- A digit's byte. -/
def dgt (x : Nat) : UInt8 := UInt8.ofNat (48 + x)
theorem dgt_n {x : Nat} (h : x < 10) : (dgt x).toNat = 48 + x := by
  unfold dgt
  simp [UInt8.toNat_ofNat']
  omega
def dgs (l : List Nat) : List UInt8 := l.map dgt

/-- The iterator of a range over a string, somewhere in memory. -/
def It (w : World) (k : Nat) (s : ByteArray) (p : Nat) : Prop := w.heap[k]? = some (.stringIter s p)

theorem int_info : (Tryd.prog.info? 3).map (fun i => (i.zero, i.size, i.bytes)) = some (some (.int .i64 0), 1, 8) := by kernel_rfl
theorem own_kept {S : Nat → Prop} {w w' : World} {base e size n : Nat} {v : Value} {xs : List Value} (h : w.ownsRow base e size v n xs) (k : Kept S w w') (hs : ∀ g, v.ownBlock = some g → ¬ S g) : w'.ownsRow base e size v n xs := by
  obtain ⟨h1, h2⟩ := h
  refine ⟨h1, h2.imp id ?_⟩
  rintro ⟨g, cap, cur, hv, hg, hh, r⟩
  refine ⟨g, cap, cur, hv, hg, ?_, r⟩
  rw [k.block g (Array.getElem?_eq_some_iff.1 hh).1 (hs g (by rw [hv]; rfl))]
  exact hh
theorem next_yes {w : World} {k : Nat} {s : ByteArray} {p : Nat} {x : Nat} (h : It w k s p) (hp : p < s.size) (hx : (s[p]'hp).toNat = 48 + x) (h10 : x < 10) :
    ∃ w', (∀ ty, (Instr.next (.pointer (some ⟨k, 0, none⟩)) true ty).run Tryd.prog w = .ok (.tuple #[.bool true, .int .i64 p, .int .i32 (48 + x)]) w') ∧ It w' k s (p + 1) ∧ Kept (· = k) w w' := by
  refine ⟨w.iterAt k s (p + 1), fun ty => ?_, Lib.iterAt_heap w k s p (p + 1) h, kept_setObj w k _⟩
  rw [Lib.run_next_ascii_at w k s p ty h hp (by omega), hx]
  rfl
theorem next_no {w : World} {k : Nat} {s : ByteArray} {p : Nat} (h : It w k s p) (hp : ¬ p < s.size) (ty : TypeId) :
    (Instr.next (.pointer (some ⟨k, 0, none⟩)) true ty).run Tryd.prog w = .ok (.tuple #[.bool false]) w := Lib.run_next_end_at w k s p ty h hp
theorem It.grown {w w' : World} {k : Nat} {s : ByteArray} {p : Nat} {row : Option Nat} (h : It w k s p) (hg : w.grownBy w' row) (hne : row = some k → False) : It w' k s p := by
  have := hg.block k (Array.getElem?_eq_some_iff.1 h).1 (fun e => hne e.symm)
  unfold It at h ⊢; rw [this]; exact h
theorem It.alloc {w : World} {k : Nat} {s : ByteArray} {p : Nat} (h : It w k s p) (o : Obj) : It (w.alloc o) k s p := by
  have hl := (Array.getElem?_eq_some_iff.1 h).1
  unfold It at h ⊢; rw [Below.heap_alloc _ _ _ hl]; exact h

set_option maxRecDepth 100000 in
set_option maxHeartbeats 1000000 in
theorem regs_any (l : List Nat) (hl : ∀ x ∈ l, x < 10) (hlen : l.length < 1000) (w : World) :
    Calls Tryd.prog 27 #[S (dgs l)] w fun e w' => ∃ v, e = .returned v ∧ Dig w.heap.size w' v l ∧ Below w.heap.size w w' := by
  obtain ⟨s, hs⟩ : ∃ s : ByteArray, s = ⟨(dgs l).toArray⟩ := ⟨_, rfl⟩
  have hsz : s.size = l.length := by rw [hs]; show (dgs l).toArray.size = _; simp [dgs]
  have hat : ∀ j (h : j < s.size), (s[j]'h).toNat = 48 + l.getD j 0 ∧ l.getD j 0 < 10 := by
    intro j h
    have h' : j < l.length := by omega
    have h10 : l[j] < 10 := hl _ (List.getElem_mem h')
    have e : s[j]'h = dgt l[j] := by
      subst hs
      show (dgs l).toArray[j]'_ = _
      simp [dgs]
    rw [e, dgt_n h10]
    simp [List.getD, h', h10]
  have e0 : S (dgs l) = .string s := by rw [hs]
  rw [e0]
  have Hsz := Lib.hid hsz; have Hat := Lib.hid hat; clear hsz hat hs e0
  obtain ⟨i0, hi, hz0, hz1, hz2⟩ := info_parts int_info
  have Hi := Lib.hid hi; have Hz0 := Lib.hid hz0; have Hz1 := Lib.hid hz1; have Hz2 := Lib.hid hz2
  clear hi hz0 hz1 hz2
  go_enter Tryd.func27, Tryd.ntmps27
  go_wp2_with fail
  go_loopg [3, 5] l.length (fun g out _ wx => ∃ j : Nat, j + g = l.length ∧ It wx w.heap.size s j ∧ wx.ownsRow (w.heap.size + 1) 3 1 out (l.take j).length ((l.take j).map fun x : Nat => Value.int .i64 (x : Int)) ∧ Below w.heap.size w wx)
  case atStart => exact ⟨0, by omega, World.iter_heap _ _ _, World.ownsRow_nil _ _ _ _, (Below.refl _ _).alloc (Nat.le_refl _) _⟩
  case round =>
    obtain ⟨j, hj, hit, hown, hb⟩ := hrel
    have Hit := Lib.hid hit; have Hown := Lib.hid hown; have Hb := Lib.hid hb; clear hit hown hb
    have hsz := Hsz.out
    by_cases hlt : j < l.length
    · obtain ⟨hx, h10⟩ := Hat.out j (by omega)
      obtain ⟨x, hxe⟩ : ∃ x, l.getD j 0 = x := ⟨_, rfl⟩
      rw [hxe] at hx h10
      obtain ⟨w5, hnx, hit5, hk5⟩ := next_yes Hit.out (by omega) hx h10
      have Hit5 := Lib.hid hit5
      have Hown5 := Lib.hid (own_kept Hown.out hk5 (fun g hg e => by have := (Hown.out.lt g hg).1; omega))
      have Hb5 := Lib.hid (Hb.out.trans (hk5.below Hb.out.size (fun i hi e => by omega)))
      have hl5 : w.heap.size < w5.heap.size := (Array.getElem?_eq_some_iff.1 hit5).1
      have Hx := Lib.hid hxe
      clear hit5 hk5 hx hxe hsz
      have hlj : (l.take j).length = j := by rw [List.length_take]; omega
      have Hlj := Lib.hid hlj; clear hlj
      have h0 : (0 : Int) ≤ x := by omega
      have h9 : (x : Int) < 10 := by omega
      go_wp2_with (at_builtin; refine wpList_append_own _ rfl _ _ 39 rfl (w.heap.size + 1) 3 i0 (.int .i64 0) 1 8 Tryd.underlying39 Hi.out Hz0.out Hz1.out Hz2.out rfl (by decide) _ _ _ rfl (Hown5.out.alloc _) ⟨w5.heap.size, 0, none⟩ 1 1 [.int .i64 (48 + (x : Int) - 48)] rfl rfl (cell_one_new _ _ _) (fun u hu => by simp at hu; subst hu; rfl) (by rw [Hlj.out]; unfold maxLen; omega) (by rw [Hlj.out]; omega) (by simp; omega) ?_; intro v' w6 hown6 hgrow6 _)
      rw [show (48 + (x : Int) - 48) = x by omega] at hown6
      go_roundg (l.length - (j + 1))
      case measure => omega
      case rel =>
        have e1 : l.take (j + 1) = l.take j ++ [x] := by
          rw [List.take_add_one]
          congr 1
          rw [← Hx.out]
          simp [hlt, List.getD]
        refine ⟨j + 1, by omega, (Hit5.out.alloc _).grown hgrow6 (fun e => by have := (Hown5.out.lt _ e).1; omega), ?_, (Hb5.out.alloc Hb5.out.size _).grown hgrow6 (by have := Hb5.out.size; simp; omega) (fun k hk => by have := (Hown5.out.lt k hk).1; omega)⟩
        rw [e1]
        simpa using hown6
    · have hj2 : j = l.length := by omega
      have hnx := next_no Hit.out (by omega)
      have Hd : Hid (l.take j = l) := by unfold Hid; rw [hj2]; simp
      clear hsz
      go_wp2_with fail
      go_ret
      refine ⟨_, rfl, ?_, Hb.out⟩
      have := Hown.out
      rw [Hd.out] at this
      exact (own_dig this).mono (by omega)
end Go.Proofs.YtidaopggidccmaaDoor
