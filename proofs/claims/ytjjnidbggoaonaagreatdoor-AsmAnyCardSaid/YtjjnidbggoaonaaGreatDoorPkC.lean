/- pack.Put: a number in bytes, the highest first. -/
import Derived.Test.YtjjnidbggoaonaaGreatDoorPkB
import Derived.Laws.AppendOwnNone
namespace Go.Proofs.YtjjnidbggoaonaaGreatDoor
open Go.RowKit
attribute [local irreducible] World.setCell World.alloc World.drew World.setRow Calls Code.wp row

theorem cell_one_new' (w : World) (v : Value) (t : TypeId) : ∀ (j : Nat) (u : Value), [v][j]? = some u → (w.alloc (.cells #[v] t)).cell? ((⟨w.heap.size, 0, none⟩ : Addr).add j) = some u := by
  intro j u h
  have hj : j = 0 := by
    rcases Nat.eq_zero_or_pos j with e | e
    · exact e
    · rw [List.getElem?_eq_none (by simp; omega)] at h; cases h
  subst hj
  rw [Addr.add_lit, (Blk.new w #[v] t).cell]
  simpa using h

set_option maxRecDepth 100000 in
set_option maxHeartbeats 1000000 in
theorem put_any (n : Nat) (x : Int) (w : World) (h8 : n ≤ 8) (h0 : 0 ≤ x) (h1 : x ≤ 18446744073709551615) :
    Calls Tryz.prog 66 #[.slice none 0 0, .int .i64 n, .int .u64 x] w fun e w' =>
      ∃ v, e = .returned v ∧ w'.ownsRow w.heap.size 5 1 v n ((List.range n).map fun j => Value.int .u8 (byN n x j)) ∧ Below w.heap.size w w' := by
  obtain ⟨i0, hi, hz0, hz1, hz2⟩ := info_parts info5
  have Hi := Lib.hid hi; have Hz0 := Lib.hid hz0; have Hz1 := Lib.hid hz1; have Hz2 := Lib.hid hz2
  clear hi hz0 hz1 hz2
  have H0 := Lib.hid h0; have H1 := Lib.hid h1
  clear h1
  go_enter Tryz.func66, Tryz.ntmps66
  go_wp2_with (at_builtin; refine wpList_append_own_none rfl _ _ 27 rfl w.heap.size 5 i0 1 Tryz.underlying27 Hi.out _ 0 [] rfl (World.ownsRow_nil _ _ _ _) rfl ?_)
  go_loopg [7, 8] n (fun g v i wx => ∃ k : Nat, k = g ∧ k ≤ n ∧ i = .int .i64 k ∧ wx.ownsRow w.heap.size 5 1 v (n - k) ((List.range (n - k)).map fun j => Value.int .u8 (byN n x j)) ∧ Below w.heap.size w wx)
  case atStart => exact ⟨n, rfl, Nat.le_refl _, rfl, by rw [Nat.sub_self]; exact World.ownsRow_nil _ _ _ _, Below.refl _ _⟩
  case round =>
    obtain ⟨k, rfl, hk, rfl, hown, hb⟩ := hrel
    have Hown := Lib.hid hown; have Hb := Lib.hid hb
    clear hown hb
    by_cases hlt : 0 < k
    · obtain ⟨q, rfl⟩ : ∃ q, k = q + 1 := ⟨k - 1, by omega⟩
      have e1 : ((q + 1 : Nat) : Int) = (q : Int) + 1 := by omega
      rw [e1]
      clear e1
      have hq8 : q < 8 := by omega
      have hby : x / 2 ^ (8 * q) % 256 = byN n x (n - (q + 1)) := by
        unfold byN
        rw [show n - 1 - (n - (q + 1)) = q by omega, Int.pow_mul]; rfl
      have Hby := Lib.hid hby; clear hby
      have hsz := Hb.out.size
      go_wp2_with (at_builtin; refine wpList_append_own _ rfl _ _ 27 rfl w.heap.size 5 i0 (.int .u8 0) 1 1 Tryz.underlying27 Hi.out Hz0.out Hz1.out Hz2.out rfl (by decide) _ _ _ rfl (Hown.out.alloc _) ⟨wr.heap.size, 0, none⟩ 1 1 [.int .u8 (x / 2 ^ (8 * q) % 256)] rfl rfl (cell_one_new' _ _ _) (fun u hu => by simp at hu; subst hu; rfl) (by unfold maxLen; omega) (by omega) (by simp; omega) ?_; intro v' w6 hown6 hgrow6 _)
      go_roundg q
      case measure => omega
      case rel =>
        refine ⟨q, rfl, by omega, by go_num, ?_, (Hb.out.alloc hsz _).grown hgrow6 (by simp; omega) (fun k hk => (Hown.out.lt k hk).1)⟩
        rw [Hby.out] at hown6
        have e1 : n - q = (n - (q + 1)) + 1 := by omega
        rw [e1, List.range_succ, List.map_append]
        exact hown6
    · obtain rfl : k = 0 := by omega
      go_wp2_with fail
      go_ret
      exact ⟨_, rfl, Hown.out, Hb.out⟩
end Go.Proofs.YtjjnidbggoaonaaGreatDoor
