/- pack.Put: a number in bytes, behind bytes. -/
import Derived.Test.YtjjnidbggoaonaaGreatDoorWoRe
import Derived.Test.YtjjnidbggoaonaaGreatDoorZaB
namespace Go.Proofs.YtjjnidbggoaonaaGreatDoor
open Go.RowKit
attribute [local irreducible] World.setCell World.alloc World.drew World.setRow Calls Code.wp row

theorem putL_cells (n : Nat) (x : Int) : (putL n x).map byteV = (List.range n).map fun j => Value.int .u8 (byN n x j) := by
  unfold putL
  rw [List.map_map]
  refine List.map_congr_left fun j _ => ?_
  have h := byN_bd n x j
  show Value.int .u8 ((UInt8.ofNat (byN n x j).toNat).toNat : Int) = _
  have e : ((UInt8.ofNat (byN n x j).toNat).toNat : Int) = byN n x j := by
    rw [UInt8.toNat_ofNat', Nat.mod_eq_of_lt (by omega)]; omega
  rw [e]
theorem bytes_one (l : List UInt8) : ∀ v ∈ l.map byteV, v.oneCell' = true := fun v hv => by obtain ⟨j, _, rfl⟩ := List.mem_map.1 hv; rfl
/-- The cells of bytes that a call owns. -/
theorem owns_src {w : World} {g0 : Nat} {bs : List UInt8} {a : Addr} {m c : Nat} (h : w.ownsRow g0 5 1 (.slice (some a) m c) m (bs.map byteV)) : ∀ (j : Nat) (u : Value), (bs.map byteV)[j]? = some u → w.cell? (a.add j) = some u := by
  intro j u hu
  obtain ⟨b, e, _, hc⟩ := RowAt.cells (RowAt.own h) (by have := h.1; have := (List.getElem?_eq_some_iff.1 hu).1; omega)
  cases e
  rw [Addr.add_lit]
  have := hc j u hu
  rwa [Nat.zero_add]

set_option maxRecDepth 100000 in
set_option maxHeartbeats 2000000 in
theorem put2_any (g0 : Nat) (bs : List UInt8) (v : Value) (n : Nat) (x : Int) (w : World) (h : w.ownsRow g0 5 1 v bs.length (bs.map byteV)) (hl : bs.length ≤ 1000000) (h8 : n ≤ 8) (h0 : 0 ≤ x) (h1 : x ≤ 18446744073709551615) :
    Calls Tryz.prog 66 #[v, .int .i64 n, .int .u64 x] w fun e w' =>
      ∃ v', e = .returned v' ∧ w'.ownsRow w.heap.size 5 1 v' (bs ++ putL n x).length ((bs ++ putL n x).map byteV) ∧ Below w.heap.size w w' := by
  obtain ⟨i0, hi, hz0, hz1, hz2⟩ := info_parts info5
  have Hi := Lib.hid hi; have Hz0 := Lib.hid hz0; have Hz1 := Lib.hid hz1; have Hz2 := Lib.hid hz2
  clear hi hz0 hz1 hz2
  have H0 := Lib.hid h0; have H1 := Lib.hid h1; have Hw := Lib.hid h
  have HL := Lib.hid (show (bs ++ putL n x).length = bs.length + n by simp [putL])
  have HC := Lib.hid (show (bs ++ putL n x).map byteV = bs.map byteV ++ (List.range n).map fun j => Value.int .u8 (byN n x j) by rw [List.map_append, putL_cells])
  rw [HL.out, HC.out]
  clear h1
  have key : ∀ (w1 : World) (v1 : Value), w1.ownsRow w.heap.size 5 1 v1 bs.length (bs.map byteV) → Below w.heap.size w w1 → True := fun _ _ _ _ => trivial
  rcases h.2 with ⟨rfl, hn0⟩ | ⟨g, cap, cur, rfl, -, -, -, -, -, -⟩
  · obtain rfl : bs = [] := List.length_eq_zero_iff.1 hn0
    refine (put_any n x w h8 H0.out H1.out).mono ?_
    rintro e w' ⟨v, rfl, hv, hb⟩
    exact ⟨v, rfl, by simpa using hv, hb⟩
  clear h key
  go_enter Tryz.func66, Tryz.ntmps66
  go_wp2_with (at_builtin; refine wpList_append_own _ rfl _ _ 27 rfl w.heap.size 5 i0 (.int .u8 0) 1 1 Tryz.underlying27 Hi.out Hz0.out Hz1.out Hz2.out rfl (by decide) _ 0 [] rfl (World.ownsRow_nil _ _ _ _) ⟨g, 0, none⟩ bs.length cap (bs.map byteV) rfl (by simp) (owns_src Hw.out) (bytes_one bs) (by unfold maxLen; omega) (by omega) (Nat.le_refl _) ?_; intro v1 w1 hown1 hgrow1 _; rw [Nat.zero_add, List.nil_append] at hown1)
  have hb1 : Below w.heap.size w w1 := Below.grown (Below.refl _ _) hgrow1 (Nat.le_refl _) (fun k hk => by cases hk)
  go_loopg [7, 8] n (fun g v i wx => ∃ k : Nat, k = g ∧ k ≤ n ∧ i = .int .i64 k ∧ wx.ownsRow w.heap.size 5 1 v (bs.length + (n - k)) (bs.map byteV ++ (List.range (n - k)).map fun j => Value.int .u8 (byN n x j)) ∧ Below w.heap.size w wx)
  case atStart => exact ⟨n, rfl, Nat.le_refl _, rfl, by rw [Nat.sub_self]; simpa using hown1, hb1⟩
  case round =>
    obtain ⟨k, rfl, hk, rfl, hown, hb⟩ := hrel
    have Hown := Lib.hid hown; have Hb := Lib.hid hb
    clear hown hb hown1 hb1 hgrow1
    by_cases hlt : 0 < k
    · obtain ⟨q, rfl⟩ : ∃ q, k = q + 1 := ⟨k - 1, by omega⟩
      have e1 : ((q + 1 : Nat) : Int) = (q : Int) + 1 := by omega
      rw [e1]
      clear e1
      have hq8 : q < 8 := by omega
      have hby : x / 2 ^ (8 * q) % 256 = byN n x (n - (q + 1)) := by
        unfold byN
        rw [show n - 1 - (n - (q + 1)) = q by omega, Int.pow_mul]; rfl
      have Hby := Lib.hid hby; clear hby
      have hsz := Hb.out.size
      go_wp2_with (at_builtin; refine wpList_append_own _ rfl _ _ 27 rfl w.heap.size 5 i0 (.int .u8 0) 1 1 Tryz.underlying27 Hi.out Hz0.out Hz1.out Hz2.out rfl (by decide) _ _ _ rfl (Hown.out.alloc _) ⟨wr.heap.size, 0, none⟩ 1 1 [.int .u8 (x / 2 ^ (8 * q) % 256)] rfl rfl (cell_one_new' _ _ _) (fun u hu => by simp at hu; rw [hu]; rfl) (by unfold maxLen; omega) (by omega) (by rw [World.size_alloc]; omega) ?_; intro v6 w6 hown6 hgrow6 _)
      go_roundg q
      case measure => omega
      case rel =>
        refine ⟨q, rfl, by omega, by go_num, ?_, (Hb.out.alloc hsz _).grown hgrow6 (by simp; omega) (fun k hk => (Hown.out.lt k hk).1)⟩
        rw [Hby.out] at hown6
        have e1 : n - q = (n - (q + 1)) + 1 := by omega
        rw [e1, List.range_succ, List.map_append, ← Nat.add_assoc, ← List.append_assoc]
        exact hown6
    · obtain rfl : k = 0 := by omega
      go_wp2_with fail
      go_ret
      exact ⟨_, rfl, Hown.out, Hb.out⟩
end Go.Proofs.YtjjnidbggoaonaaGreatDoor
