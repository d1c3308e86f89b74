/- Contracts of package pack: a reader that has bytes left gives numbers; a number in bytes. -/
import Derived.Test.YtjjnidbggoaonaaGreatDoorPkA
import Derived.Test.YtjjnidbggoaonaaGreatDoorCut
import Derived.StillTailTactics
import Derived.Deep.QuietTactic
import Derived.BigQuiet
import Derived.Deep.RegionHeld3
import Derived.Deep.LoopGhost
namespace Go.Proofs.YtjjnidbggoaonaaGreatDoor
open Go.RowKit
attribute [local irreducible] World.setCell World.alloc World.drew World.setRow Calls Code.wp row

theorem range_get (m : Nat) (B : Nat → Int) (i : Nat) (hi : i < ((List.range m).map fun j => Value.int .u8 (B j)).length) : ((List.range m).map fun j => Value.int .u8 (B j))[i]? = some (Value.int .u8 (B i)) := by
  have h' : i < m := by simpa using hi
  simp [h']

theorem copy_src {w : World} {b o m : Nat} {B : Nat → Int} (h : ∀ j, j < m → w.cell? ⟨b, o + j, none⟩ = some (.int .u8 (B j))) :
    ∀ (j : Nat) (v : Value), ((List.range m).map fun j => Value.int .u8 (B j))[j]? = some v → w.cell? ((⟨b, o, none⟩ : Addr).add j) = some v := by
  intro j v hv
  have hj : j < m := by
    rcases Nat.lt_or_ge j m with h' | h'
    · exact h'
    · rw [List.getElem?_eq_none (by simpa using h')] at hv; cases hv
  rw [range_get m B j (by simpa using hj)] at hv
  rw [Addr.add_lit, h j hj]; exact hv

theorem info5 : (Tryz.prog.info? 5).map (fun i => (i.zero, i.size, i.bytes)) = some (some (.int .u8 0), 1, 1) := by kernel_rfl
/-- A reader in memory: of the bytes in slice a; it has read so many. -/
def RdAt (w : World) (rb : Nat) (a : Option Addr) (len cap at_ : Nat) : Prop := Blk w rb #[.slice a len cap, .int .i64 at_, .bool false] 140

theorem pnew_any (a : Option Addr) (len cap : Nat) (w : World) :
    Calls Tryz.prog 35 #[.slice a len cap] w fun e w' => e = .returned (.pointer (some ⟨w.heap.size, 0, none⟩)) ∧ w' = w.alloc (.cells #[.slice a len cap, .int .i64 0, .bool false] 140) := by
  go_enter Tryz.func35, Tryz.ntmps35
  go_wp2
  go_ret
  exact ⟨rfl, rfl⟩

theorem bad_any (rb : Nat) (a : Option Addr) (len cap at_ : Nat) (w : World) (hR : RdAt w rb a len cap at_) :
    Calls Tryz.prog 112 #[.pointer (some ⟨rb, 0, none⟩)] w fun e w' => e = .returned (.bool false) ∧ w = w' := by
  have hc := Blk.cell hR
  clear hR
  go_enter Tryz.func112, Tryz.ntmps112
  go_wp2
  go_ret
  exact ⟨rfl, rfl⟩

theorem rest_any (rb : Nat) (a : Option Addr) (len cap at_ : Nat) (w : World) (hR : RdAt w rb a len cap at_) (h : at_ ≤ len) (hl : len ≤ maxLen) :
    Calls Tryz.prog 113 #[.pointer (some ⟨rb, 0, none⟩)] w fun e w' => e = .returned (.int .i64 ((len : Int) - at_)) ∧ ∃ n, w' = w.drewN n := by
  have hc := Blk.cell hR
  unfold maxLen at hl
  clear hR
  have h1 : IntKind.i64.wrap ((len : Int) - at_) = (len : Int) - at_ := IntWalk.i64_in _ (by omega)
  go_enter Tryz.func113, Tryz.ntmps113
  go_wp2
  go_quiet (fail)
  go_wp2
  go_ret
  exact ⟨rfl, _, rfl⟩

set_option maxRecDepth 100000 in
set_option maxHeartbeats 1000000 in
/-- Take: n bytes from where it stands. -/
theorem take_any (rb : Nat) (b o len cap at_ n : Nat) (B : Nat → Int) (w : World) (hR : RdAt w rb (some ⟨b, o, none⟩) len cap at_) (hb : ∀ j, j < len → w.cell? ⟨b, o + j, none⟩ = some (.int .u8 (B j)))
    (h1 : 1 ≤ n) (hn : at_ + n ≤ len) (hl : len ≤ cap) (hc : cap ≤ maxLen) (hc47 : n ≤ 64) (hrb : b ≠ rb) :
    Calls Tryz.prog 71 #[.pointer (some ⟨rb, 0, none⟩), .int .i64 n] w fun e w' =>
      ∃ v, e = .returned v ∧ w'.ownsRow w.heap.size 5 1 v n ((List.range n).map fun j => Value.int .u8 (B (at_ + j))) ∧ RdAt w' rb (some ⟨b, o, none⟩) len cap (at_ + n) ∧ Kept (fun k => k = rb) w w' := by
  have hcc := Blk.cell hR
  have hfr := Blk.free hR
  have hlt := Blk.lt hR
  unfold maxLen at hc
  have hn1 : ¬ ((n : Int) < 0) := by omega
  have hn2 : (n : Int) ≤ (len : Int) - at_ := by omega
  obtain ⟨i0, hi, hz0, hz1, hz2⟩ := info_parts info5
  have Hi := Lib.hid hi; have Hz0 := Lib.hid hz0; have Hz1 := Lib.hid hz1; have Hz2 := Lib.hid hz2
  have HR := Lib.hid hR
  have Hb := Lib.hid hb
  have hlm : len ≤ maxLen := by unfold maxLen; omega
  clear hi hz0 hz1 hz2 hR hb
  go_enter Tryz.func71, Tryz.ntmps71
  go_wp2_with fail
  refine (bad_any rb _ _ _ _ _ HR.out).mono ?_
  rintro e w' ⟨rfl, rfl⟩
  go_wp2_with fail
  refine (rest_any rb _ _ _ _ _ HR.out (by omega) hlm).mono ?_
  rintro e w' ⟨rfl, nq, rfl⟩
  have HR2 : Hid (RdAt (w.drewN nq) rb (some ⟨b, o, none⟩) len cap at_) := HR.out
  have hcc2 := Blk.cell HR2.out
  have hfr2 := Blk.free HR2.out
  clear hlm
  go_wp2_with fail
  have hR3 : Blk ((w.drewN nq).setCell ⟨rb, 1, none⟩ (.int .i64 ((at_ : Int) + n))) rb #[.slice (some ⟨b, o, none⟩) len cap, .int .i64 ((at_ : Int) + n), .bool false] 140 := Blk.set HR2.out 1 _
  have hK3 : Kept (fun k => k = rb) w ((w.drewN nq).setCell ⟨rb, 1, none⟩ (.int .i64 ((at_ : Int) + n))) := ((Kept.refl (fun k => k = rb) w).drewN nq).setIn rb 1 _ rfl
  have hb3 : ∀ j, j < n → ((w.drewN nq).setCell ⟨rb, 1, none⟩ (.int .i64 ((at_ : Int) + n))).cell? ⟨b, o + at_ + j, none⟩ = some (.int .u8 (B (at_ + j))) := by
    intro j hj
    rw [World.cell?_setCell_far _ _ _ _ (show rb ≠ b from fun e => hrb e.symm), Nat.add_assoc]
    exact Hb.out (at_ + j) (by omega)
  have Hb3 := Lib.hid hb3; have HK3 := Lib.hid hK3; have HR3 := Lib.hid hR3
  clear hb3 hK3 hR3 hcc hfr hcc2 hfr2
  generalize (w.drewN nq).setCell ⟨rb, 1, none⟩ (.int .i64 ((at_ : Int) + n)) = w3 at *
  have hcc := HR3.out.cell
  have hs1 : IntKind.i64.wrap ((at_ : Int) + n - n) = (at_ : Int) := by rw [show (at_ : Int) + n - n = at_ by omega]; exact IntWalk.i64_in _ (by omega)
  have hs2 : IntKind.i64.wrap (at_ : Int) = (at_ : Int) := IntWalk.i64_in _ (by omega)
  have hsl : ∀ w, (Instr.slice 27 (.slice (some ⟨b, o, none⟩) len cap) (some (.int .i64 at_)) (some (.int .i64 ((at_ : Int) + n))) none).run Tryz.prog w = .ok (.slice (some ⟨b, o + at_, none⟩) n (cap - at_)) w := by
    intro w
    have hq0 : (0 : Int) ≤ at_ := by omega
    have hqm : (at_ : Int) ≤ (at_ : Int) + n := by omega
    have hqm2 : (at_ : Int) + n ≤ cap := by omega
    have e1 : ((at_ : Int) + n).toNat = at_ + n := by omega
    have e2 : ¬ cap = at_ := by omega
    go_simp
  have HRd := Lib.hid HR3.out.drew
  have HKd := Lib.hid HK3.out.drew
  have Hbd : Hid (∀ j, j < n → w3.drew.cell? ⟨b, o + at_ + j, none⟩ = some (.int .u8 (B (at_ + j)))) := fun j hj => by rw [World.cell?_drew]; exact Hb3.out j hj
  go_wp2_with fail
  go_still_tail 15, (by kernel_rfl)
  rw [drew_eq w3]
  go_wp2_with (at_builtin; refine wpList_append_own _ rfl _ _ 27 rfl w.heap.size 5 i0 (.int .u8 0) 1 1 Tryz.underlying27 Hi.out Hz0.out Hz1.out Hz2.out rfl (by decide) _ _ _ rfl (World.ownsRow_nil _ _ _ _) ⟨b, o + at_, none⟩ n _ ((List.range n).map fun j => Value.int .u8 (B (at_ + j))) rfl (by simp) (copy_src Hbd.out) (fun v hv => by obtain ⟨j, _, rfl⟩ := List.mem_map.1 hv; rfl) (by unfold maxLen; omega) (by omega) (by rw [drew_size]; exact HK3.out.size) ?_; intro v' w2 hown hgrow _)
  go_ret
  have hbg : Below w3.drew.heap.size w3.drew w2 := Below.grown (Below.refl _ _) hgrow (Nat.le_refl _) (fun k hk => by cases hk)
  refine ⟨_, rfl, by simpa using hown, ?_, ?_⟩
  · have := HRd.out.below hbg HRd.out.lt
    unfold RdAt; rw [show ((at_ + n : Nat) : Int) = (at_ : Int) + n by omega]; exact this
  · exact HKd.out.trans ((Kept.of_below hbg).mono fun k _ h => h)

set_option maxRecDepth 100000 in
set_option maxHeartbeats 1000000 in
/-- Num: the number of the next n bytes. -/
theorem pnum_any (rb : Nat) (b o len cap at_ n : Nat) (B : Nat → Int) (w : World) (hR : RdAt w rb (some ⟨b, o, none⟩) len cap at_) (hb : ∀ j, j < len → w.cell? ⟨b, o + j, none⟩ = some (.int .u8 (B j)))
    (hB : ∀ j, 0 ≤ B j ∧ B j ≤ 255) (h1 : 1 ≤ n) (h8 : n ≤ 8) (hn : at_ + n ≤ len) (hl : len ≤ cap) (hc : cap ≤ maxLen) (hrb : b ≠ rb) :
    Calls Tryz.prog 36 #[.pointer (some ⟨rb, 0, none⟩), .int .i64 n] w fun e w' =>
      e = .returned (.int .u64 (beN (fun j => B (at_ + j)) n)) ∧ RdAt w' rb (some ⟨b, o, none⟩) len cap (at_ + n) ∧ Kept (fun k => k = rb) w w' := by
  have hn1 : ¬ ((n : Int) < 1) := by omega
  have hn8 : ¬ ((8 : Int) < n) := by omega
  have HR := Lib.hid hR; have Hb := Lib.hid hb; have HB := Lib.hid hB; have Hc := Lib.hid hc; have Hl := Lib.hid hl
  clear hR hb hB hc hl
  go_enter Tryz.func36, Tryz.ntmps36
  go_wp2_with fail
  refine (take_any rb b o len cap at_ n B _ HR.out Hb.out h1 hn Hl.out Hc.out (by omega) hrb).mono ?_
  rintro e w2 ⟨v, rfl, hown, hR2, hK2⟩
  obtain ⟨C, hC⟩ : ∃ C : Nat → Int, (fun j => B (at_ + j)) = C := ⟨_, rfl⟩
  have hCb : ∀ j, 0 ≤ C j ∧ C j ≤ 255 := fun j => by rw [← hC]; exact HB.out _
  have hown' : w2.ownsRow w.heap.size 5 1 v n ((List.range n).map fun j => Value.int .u8 (C j)) := by rw [← hC]; exact hown
  have HC := Lib.hid hC
  clear hown hC
  obtain ⟨g, gc, cur, rfl, _, _, _⟩ := hown'.2.resolve_left (by rintro ⟨_, h0⟩; omega)
  have hcell : ∀ j, j < n → w2.cell? ⟨g, j, none⟩ = some (.int .u8 (C j)) := fun j hj => by
    rw [hown'.cellAt j (by omega)]; simp [hj]
  have Hcell := Lib.hid hcell; have HR2 := Lib.hid hR2; have HK2 := Lib.hid hK2
  clear hown' hcell hR2 hK2
  go_wp2_with fail
  go_loop [5, 7, 20] (fun x _ i => ∃ k : Nat, k ≤ n ∧ i = .int .i64 k ∧ x = .int .u64 (beN C k)) (fun _ _ i => n - (intOf i).toNat)
  case atStart => exact ⟨0, by omega, rfl, rfl⟩
  case round =>
    obtain ⟨k, hk, rfl, rfl⟩ := hrel
    by_cases hlt : k < n
    · have hcl := Hcell.out k hlt
      obtain ⟨c0, c1⟩ := hCb k
      obtain ⟨d0, d1⟩ := beN_bd C hCb k (by omega)
      have hor := or_u64 (beN C k) (C k) d0 c0 (by omega) d1
      have Hs : Hid (beN C (k + 1) = beN C k * 256 + C k) := rfl
      go_wp2_with fail
      go_round
      case rel => exact ⟨k + 1, by omega, by go_num, by rw [Hs.out]⟩
      case measure => simp [intOf]; omega
    · obtain rfl : k = n := by omega
      go_wp2_with fail
      go_ret
      exact ⟨by rw [HC.out]; rfl, HR2.out, HK2.out⟩
end Go.Proofs.YtjjnidbggoaonaaGreatDoor
