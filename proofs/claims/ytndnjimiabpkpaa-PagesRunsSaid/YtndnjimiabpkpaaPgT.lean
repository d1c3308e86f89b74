/- A table of pages, plainly: a tree of frames with eight branches and four levels; the contract of Walk. -/
import Derived.Test.YtndnjimiabpkpaaPgB
namespace Go.Proofs.Ytndnjimiabpkpaa
open Go.RowKit

def leafE (F : Nat → Int) (Y : Nat → Bool) (p : Nat) : Int := if F p = 0 then 0 else F p * 256 + 1 + (if Y p then 2 else 0)
/-- How many of the first k are there. -/
def cntN (N : Nat → Int) : Nat → Nat
  | 0 => 0
  | k + 1 => cntN N k + (if N k = 0 then 0 else 1)
/-- The table with root r, charged to o: node n's frame is N n (0: none), its branches are the nodes 8 n + 1 + i; below level 3 the pages: page p leads to F p, which may be written if Y p. -/
structure Tab (P : Pool) (r o : Int) (N : Nat → Int) (F : Nat → Int) (Y : Nat → Bool) : Prop where
  root : N 0 = r
  r0 : r ≠ 0
  o0 : o ≠ 0
  ent : ∀ n, n < 585 → N n ≠ 0 → ∀ i, i < 8 → ent P (N n) i = if 8 * n + 1 + i < 585 then (if N (8 * n + 1 + i) = 0 then 0 else N (8 * n + 1 + i) * 256 + 1) else leafE F Y (8 * n + 1 + i - 585)
  inj : ∀ n m, n < 585 → m < 585 → N n ≠ 0 → N m ≠ 0 → N n = N m → n = m
  own : ∀ n, n < 585 → N n ≠ 0 → P.owner (N n) = o
  up : ∀ n, 0 < n → n < 585 → N n ≠ 0 → N ((n - 1) / 8) ≠ 0
  leafUp : ∀ p, p < 4096 → F p ≠ 0 → N (73 + p / 8) ≠ 0
  lf : ∀ p, p < 4096 → 0 ≤ F p ∧ F p ≤ 4294967295

/-- The node at a level on the way to page p. -/
def nd (p : Nat) : Nat → Nat
  | 0 => 0
  | 1 => 1 + p / 512
  | 2 => 9 + p / 64
  | _ => 73 + p / 8
theorem nd_lt (p l : Nat) (hp : p < 4096) : nd p l < 585 := by
  unfold nd; split <;> omega
theorem nd_step (p l : Nat) (hp : p < 4096) (hl : l < 3) : 8 * nd p l + 1 + p / 8 ^ (3 - l) % 8 = nd p (l + 1) := by
  obtain rfl | rfl | rfl : l = 0 ∨ l = 1 ∨ l = 2 := by omega
  · simp only [nd]; omega
  · simp only [nd]; omega
  · simp only [nd]; omega
theorem nd_leaf (p : Nat) : 8 * nd p 3 + 1 + p / 8 ^ (3 - 3) % 8 = 585 + p := by simp only [nd]; omega
theorem nd_up (p l : Nat) (hp : p < 4096) (hl : l < 3) : (nd p (l + 1) - 1) / 8 = nd p l := by
  obtain rfl | rfl | rfl : l = 0 ∨ l = 1 ∨ l = 2 := by omega
  all_goals simp only [nd]; omega
theorem nd_pos (p l : Nat) : 0 < nd p (l + 1) := by
  unfold nd; split <;> omega

section
variable {P : Pool} {r o : Int} {N F : Nat → Int} {Y : Nat → Bool}
/-- A page that leads somewhere has all its tables. -/
theorem Tab.way (h : Tab P r o N F Y) (p : Nat) (hp : p < 4096) (hF : F p ≠ 0) (l : Nat) (hl : l ≤ 3) : N (nd p l) ≠ 0 := by
  have h3 : N (nd p 3) ≠ 0 := h.leafUp p hp hF
  have h2 : N (nd p 2) ≠ 0 := by rw [← nd_up p 2 hp (by omega)]; exact h.up _ (nd_pos p 2) (nd_lt p 3 hp) h3
  have h1 : N (nd p 1) ≠ 0 := by rw [← nd_up p 1 hp (by omega)]; exact h.up _ (nd_pos p 1) (nd_lt p 2 hp) h2
  have h0 : N (nd p 0) ≠ 0 := by rw [← nd_up p 0 hp (by omega)]; exact h.up _ (nd_pos p 0) (nd_lt p 1 hp) h1
  obtain rfl | rfl | rfl | rfl : l = 0 ∨ l = 1 ∨ l = 2 ∨ l = 3 := by omega
  · exact h0
  · exact h1
  · exact h2
  · exact h3
theorem Tab.bd (h : Tab P r o N F Y) (n : Nat) (hn : n < 585) (h0 : N n ≠ 0) : 1 ≤ N n ∧ N n ≤ P.n :=
  (P.there_iff _).1 (P.owner_there _ (by rw [h.own n hn h0]; exact h.o0))
theorem Tab.step (h : Tab P r o N F Y) (p l : Nat) (hp : p < 4096) (hl : l < 3) (h0 : N (nd p l) ≠ 0) : Go.Proofs.Ytndnjimiabpkpaa.ent P (N (nd p l)) (p / 8 ^ (3 - l) % 8) = if N (nd p (l + 1)) = 0 then 0 else N (nd p (l + 1)) * 256 + 1 := by
  rw [h.ent _ (nd_lt p l hp) h0 _ (Nat.mod_lt _ (by omega)), nd_step p l hp hl, if_pos (nd_lt p (l + 1) hp)]
theorem Tab.last (h : Tab P r o N F Y) (p : Nat) (hp : p < 4096) (h0 : N (nd p 3) ≠ 0) : Go.Proofs.Ytndnjimiabpkpaa.ent P (N (nd p 3)) (p / 8 ^ (3 - 3) % 8) = leafE F Y p := by
  rw [h.ent _ (nd_lt p 3 hp) h0 _ (Nat.mod_lt _ (by omega)), nd_leaf p, if_neg (by omega), show 585 + p - 585 = p by omega]
end

attribute [local irreducible] World.setCell World.alloc World.drew World.setRow Calls Code.wp row

theorem walk_bad (pb : Nat) (r p : Int) (w : World) (hp : p < 0 ∨ 4096 ≤ p) :
    Calls Try.prog 38 #[.pointer (some ⟨pb, 0, none⟩), .int .i64 r, .int .i64 p] w fun e w' => e = .returned (.tuple #[.int .i64 0, .bool false, .bool false]) ∧ w = w' := by
  by_cases h : p < 0
  · clear hp
    go_enter Try.func38, Try.ntmps38
    go_wp2_with fail
    go_ret3
    exact ⟨rfl, rfl⟩
  · have h2 : 4096 ≤ p := hp.resolve_left h
    clear hp
    go_enter Try.func38, Try.ntmps38
    go_wp2_with fail
    go_ret3
    exact ⟨rfl, rfl⟩

set_option maxRecDepth 100000 in
set_option maxHeartbeats 2000000 in
theorem walk_any (pb db ob : Nat) (P : Pool) (r o : Int) (N F : Nat → Int) (Y : Nat → Bool) (p : Nat) (w : World) (hP : PoolAt w pb db ob P) (hT : Tab P r o N F Y) (hp : p < 4096) :
    Calls Try.prog 38 #[.pointer (some ⟨pb, 0, none⟩), .int .i64 r, .int .i64 p] w fun e w' =>
      e = .returned (.tuple #[.int .i64 (F p), .bool (decide (F p ≠ 0) && Y p), .bool (decide (F p ≠ 0))]) ∧ Below w.heap.size w w' := by
  have HP := Lib.hid hP; have HT := Lib.hid hT
  have hpi : (p : Int) < 4096 := by omega
  have hhi := hP.hi
  clear hP hT
  go_enter Try.func38, Try.ntmps38
  go_wp2_with fail
  go_loopg [9, 10, 11, 19] 4 (fun g at_ _ _ i wx => ∃ l : Nat, l + g = 4 ∧ l ≤ 3 ∧ i = .int .i64 l ∧ at_ = .int .i64 (N (nd p l)) ∧ N (nd p l) ≠ 0 ∧ Below w.heap.size w wx)
  case atStart => exact ⟨0, rfl, by omega, rfl, by show Value.int .i64 r = .int .i64 (N 0); rw [HT.out.root], by show N 0 ≠ 0; rw [HT.out.root]; exact HT.out.r0, Below.refl _ _⟩
  case round =>
    obtain ⟨l, hg, hl3, rfl, rfl, h0, hb⟩ := hrel
    obtain ⟨t, ht⟩ : ∃ t, N (nd p l) = t := ⟨_, rfl⟩
    rw [ht] at h0 ⊢
    have H0 := Lib.hid h0; have Hb := Lib.hid hb; have Ht := Lib.hid ht
    have hpr := HP.out.below hb
    have HPr := Lib.hid hpr
    have hszr := hb.size
    have hown : P.owner t ≠ 0 := by rw [← ht, HT.out.own _ (nd_lt p l hp) (by rw [ht]; exact h0)]; exact HT.out.o0
    have Hown := Lib.hid hown
    have hli : (l : Int) < 4 := by omega
    clear h0 hb ht hpr hown
    go_wp2_with fail
    refine (index_any l p _ hl3 hp).mono ?_
    rintro e w' ⟨rfl, rfl⟩
    obtain ⟨i, hi⟩ : ∃ i, p / 8 ^ (3 - l) % 8 = i := ⟨_, rfl⟩
    have hi8 : i < 8 := by omega
    rw [hi]
    have Hi := Lib.hid hi; clear hi
    go_wp2_with fail
    refine (entry_any pb db ob P t i _ HPr.out Hown.out hi8).mono ?_
    rintro e w2 ⟨rfl, hb2⟩
    have Hb2 := Lib.hid (Hb.out.trans (hb2.mono hszr))
    clear hb2
    by_cases hl : l < 3
    · have hst := HT.out.step p l hp hl (by rw [Ht.out]; exact H0.out)
      rw [Ht.out, Hi.out] at hst
      by_cases hc : N (nd p (l + 1)) = 0
      · rw [if_pos hc] at hst
        have hF : F p = 0 := by
          by_cases h : F p = 0
          · exact h
          · exact absurd hc (HT.out.way p hp h (l + 1) (by omega))
        have HF := Lib.hid hF
        have ha : bits .and .u64 0 1 = 0 := by decide
        rw [hst]
        clear hst hc hF
        go_wp2_with fail
        go_ret3
        exact ⟨by rw [HF.out]; rfl, Hb2.out⟩
      · rw [if_neg hc] at hst
        obtain ⟨c1, c2⟩ := HT.out.bd _ (nd_lt p (l + 1) hp) hc
        obtain ⟨c, hcc⟩ : ∃ c, N (nd p (l + 1)) = c := ⟨_, rfl⟩
        rw [hcc] at hst c1 c2 hc
        have ha : bits .and .u64 (c * 256 + 1) 1 = 1 := by rw [and1_u64 _ (by omega) (by omega)]; omega
        have hd : (c * 256 + 1) / 256 = c := by omega
        have hl3' : ¬ (l : Int) = 3 := by omega
        rw [hst]
        have Hcc := Lib.hid hcc
        have Hc := Lib.hid hc
        clear hst hcc hc
        go_wp2_with fail
        go_roundg (4 - (l + 1))
        case measure => omega
        case rel => exact ⟨l + 1, by omega, by omega, by go_num, by rw [Hcc.out], by rw [Hcc.out]; exact Hc.out, Hb2.out⟩
    · obtain rfl : l = 3 := by omega
      have hst := HT.out.last p hp (by rw [Ht.out]; exact H0.out)
      rw [Ht.out, Hi.out] at hst
      unfold leafE at hst
      obtain ⟨b1, b2⟩ := HT.out.lf p hp
      obtain ⟨f, hf⟩ : ∃ f, F p = f := ⟨_, rfl⟩
      rw [hf] at hst b1 b2
      have Hf := Lib.hid hf; clear hf
      by_cases h0 : f = 0
      · rw [if_pos h0] at hst
        have ha : bits .and .u64 0 1 = 0 := by decide
        rw [hst]
        have H0 := Lib.hid h0
        clear hst h0
        go_wp2_with fail
        go_ret3
        exact ⟨by rw [Hf.out, H0.out]; rfl, Hb2.out⟩
      · rw [if_neg h0] at hst
        cases hy : Y p
        · rw [hy] at hst
          have hst' : ent P t i = f * 256 + 1 := by rw [hst]; simp
          have ha : bits .and .u64 (f * 256 + 1) 1 = 1 := by rw [and1_u64 _ (by omega) (by omega)]; omega
          have hd : (f * 256 + 1) / 256 = f := by omega
          have ha2 : bits .and .u64 (f * 256 + 1) 2 = 0 := by have := and2_u64 f false b1 b2; simpa using this
          rw [hst']
          have Hy := Lib.hid hy; have H0f := Lib.hid h0
          clear hst hst' hy h0
          go_wp2_with fail
          go_ret3
          exact ⟨by rw [Hf.out, Hy.out]; simp [H0f.out], Hb2.out⟩
        · rw [hy] at hst
          have hst' : ent P t i = f * 256 + 3 := by rw [hst]; simp; omega
          have ha : bits .and .u64 (f * 256 + 3) 1 = 1 := by rw [and1_u64 _ (by omega) (by omega)]; omega
          have hd : (f * 256 + 3) / 256 = f := by omega
          have ha2 : bits .and .u64 (f * 256 + 3) 2 = 2 := by have := and2_u64 f true b1 b2; rw [if_pos rfl] at this; rw [show f * 256 + 3 = f * 256 + 1 + 2 by omega]; exact this
          rw [hst']
          have Hy := Lib.hid hy; have H0f := Lib.hid h0
          clear hst hst' hy h0
          go_wp2_with fail
          go_ret3
          exact ⟨by rw [Hf.out, Hy.out]; simp [H0f.out], Hb2.out⟩
end Go.Proofs.Ytndnjimiabpkpaa
