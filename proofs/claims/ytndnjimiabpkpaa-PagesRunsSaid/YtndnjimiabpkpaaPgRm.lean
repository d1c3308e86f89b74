/- PagesRuns, plainly: the table, the map of ways and the known pages, call by call. -/
import Derived.Test.YtndnjimiabpkpaaPgWhole
import Derived.Test.YtndnjimiabpkpaaPgNo
import Derived.Test.YtndnjimiabpkpaaPgE
import Derived.Test.YtndnjimiabpkpaaPgCalls
namespace Go.Proofs.Ytndnjimiabpkpaa
open Go.RowKit
attribute [local irreducible] World.setCell World.alloc World.drew World.setRow Calls Code.wp row

/-- All that is known between two calls. -/
structure RunW (w : World) (base pb db ob mb kb : Nat) (R : Int) (N F : Nat → Int) (Y : Nat → Bool) (es ks : List (Int × Value)) (P : Pool) (j : Nat) : Prop where
  pool : PoolAt w pb db ob P
  tab : Tab P R 9 N F Y
  m : MapAt w mb es
  k : MapAt w kb ks
  like : AlikeW es F Y
  keys : ∀ q ∈ ks, ∃ p : Nat, p < 4096 ∧ q.1 = (p : Int)
  ways : Ways N ks
  n : P.n = 400
  cnt : countTo P.O 9 P.n = cntN N 585
  left : P.left + cntN N 585 = 400
  most : cntN N 585 ≤ 1 + 3 * j
  ne : mb ≠ kb ∧ pb ≠ mb ∧ db ≠ mb ∧ ob ≠ mb ∧ pb ≠ kb ∧ db ≠ kb ∧ ob ≠ kb
  base : base ≤ pb ∧ base ≤ db ∧ base ≤ ob ∧ base ≤ mb ∧ base ≤ kb

def wayN (N : Nat → Int) (p : Nat) : Nat → Int := fun m => if N m ≠ 0 ∨ m = nd p 1 ∨ m = nd p 2 ∨ m = nd p 3 then 1 else 0
theorem wayN_iff (N : Nat → Int) (p m : Nat) : wayN N p m ≠ 0 ↔ N m ≠ 0 ∨ m = nd p 1 ∨ m = nd p 2 ∨ m = nd p 3 := by
  unfold wayN
  by_cases c : N m ≠ 0 ∨ m = nd p 1 ∨ m = nd p 2 ∨ m = nd p 3
  · rw [if_pos c]; exact ⟨fun _ => c, fun _ => by omega⟩
  · rw [if_neg c]; exact ⟨fun h => absurd rfl h, fun h => absurd h c⟩
theorem Ways.put {N M : Nat → Int} {ks : List (Int × Value)} (h : Ways N ks) (p : Nat) (v : Value) (hM : ∀ m, M m ≠ 0 ↔ N m ≠ 0 ∨ m = nd p 1 ∨ m = nd p 2 ∨ m = nd p 3) : Ways M (put ks p v) := by
  intro m
  rw [hM m, h m]
  constructor
  · rintro ((h | ⟨q, hq, h⟩) | h)
    · exact .inl h
    · by_cases e : q.1 = (p : Int)
      · exact .inr ⟨_, put_mem ks p v, by rw [e] at h; exact h⟩
      · exact .inr ⟨q, put_old hq e, h⟩
    · exact .inr ⟨_, put_mem ks p v, by simpa using h⟩
  · rintro (h | ⟨q, hq, h⟩)
    · exact .inl (.inl h)
    · rcases mem_put hq with rfl | ⟨h1, h2⟩
      · exact .inr (by simpa using h)
      · exact .inl (.inr ⟨q, h1, h⟩)
theorem mem_del {es : List (Int × Value)} {k : Int} {q : Int × Value} : q ∈ del es k ↔ q ∈ es ∧ q.1 ≠ k := by
  unfold del; simp [List.mem_filter]
theorem Ways.iff {N : Nat → Int} {ks ks' : List (Int × Value)} (h : Ways N ks) (he : ∀ q, q ∈ ks ↔ q ∈ ks') : Ways N ks' := by
  intro n; rw [h n]; simp only [he]
theorem keys_put {ks : List (Int × Value)} (h : ∀ q ∈ ks, ∃ p : Nat, p < 4096 ∧ q.1 = (p : Int)) (p : Nat) (hp : p < 4096) (v : Value) : ∀ q ∈ put ks p v, ∃ p' : Nat, p' < 4096 ∧ q.1 = (p' : Int) := by
  intro q hq
  rcases mem_put hq with rfl | ⟨h1, _⟩
  · exact ⟨p, hp, rfl⟩
  · exact h q h1
def cut585 (N : Nat → Int) : Nat → Int := fun n => if n < 585 then N n else 0
theorem cut585_lt (N : Nat → Int) {n : Nat} (h : n < 585) : cut585 N n = N n := if_pos h
theorem cut585_ge (N : Nat → Int) {n : Nat} (h : ¬ n < 585) : cut585 N n = 0 := if_neg h
theorem Tab.cut585 {P : Pool} {r o : Int} {N F : Nat → Int} {Y : Nat → Bool} (h : Tab P r o N F Y) : Tab P r o (cut585 N) F Y := by
  refine ⟨by rw [cut585_lt _ (by omega)]; exact h.root, h.r0, h.o0, fun n hn h0 i hi => ?_, fun n m hn hm h1 h2 h3 => ?_, fun n hn h0 => ?_, fun n h1 hn h0 => ?_, fun p hp hF => ?_, h.lf⟩
  · rw [cut585_lt _ hn] at h0 ⊢
    rw [h.ent n hn h0 i hi]
    by_cases c : 8 * n + 1 + i < 585
    · rw [if_pos c, if_pos c, cut585_lt _ c]
    · rw [if_neg c, if_neg c]
  · rw [cut585_lt _ hn] at h1 h3; rw [cut585_lt _ hm] at h2 h3; exact h.inj n m hn hm h1 h2 h3
  · rw [cut585_lt _ hn] at h0 ⊢; exact h.own n hn h0
  · rw [cut585_lt _ hn] at h0; rw [cut585_lt _ (by omega)]; exact h.up n h1 hn h0
  · rw [cut585_lt _ (by omega)]; exact h.leafUp p hp hF
theorem Tab.leafs {P : Pool} {r o : Int} {N F F' : Nat → Int} {Y : Nat → Bool} (h : Tab P r o N F Y) (hF : ∀ p, p < 4096 → F p = F' p) : Tab P r o N F' Y := by
  refine ⟨h.root, h.r0, h.o0, fun n hn h0 i hi => ?_, h.inj, h.own, h.up, fun p hp h0 => h.leafUp p hp (by rw [hF p hp]; exact h0), fun p hp => by rw [← hF p hp]; exact h.lf p hp⟩
  rw [h.ent n hn h0 i hi]
  by_cases c : 8 * n + 1 + i < 585
  · rw [if_pos c, if_pos c]
  · rw [if_neg c, if_neg c]
    unfold leafE
    rw [hF _ (by omega)]

section
variable {w w' wa wb : World} {base pb db ob mb kb : Nat} {R : Int} {N F N' : Nat → Int} {Y : Nat → Bool} {es ks : List (Int × Value)} {P P' : Pool} {j : Nat}
theorem RunW.need (h : RunW w base pb db ob mb kb R N F Y es ks P j) (p : Nat) (hp : p < 4096) (v : Value) (n : Nat) (hn : ∀ M, Ways M (put ks p v) → n + 1 = cntN M 585) : n + 1 = cntN N 585 + needT N p := by
  rw [hn (wayN N p) (h.ways.put p v (wayN_iff N p))]
  exact h.tab.more p hp (wayN_iff N p)
theorem RunW.known (h : RunW w base pb db ob mb kb R N F Y es ks P j) : (∀ n : Nat, (∀ M, Ways M ks → n + 1 = cntN M 585) → n = cntN N 585 - 1) := by
  intro n hn; have := hn N h.ways; omega
theorem RunW.low (h : RunW w base pb db ob mb kb R N F Y es ks P j) (hj : j < 100) (p : Nat) : needT N p ≤ P.left := by
  have h1 := needT_le N p; have h2 := h.left; have h3 := h.most; omega
theorem RunW.step (h : RunW w base pb db ob mb kb R N F Y es ks P j) : RunW w base pb db ob mb kb R N F Y es ks P (j + 1) :=
  { h with most := by have := h.most; omega }
theorem RunW.below (h : RunW w base pb db ob mb kb R N F Y es ks P j) (k : Below w.heap.size w w') : RunW w' base pb db ob mb kb R N F Y es ks P j :=
  { h with pool := h.pool.below k, m := h.m.below k h.m.lt, k := h.k.below k h.k.lt }
theorem RunW.filled (h : RunW w base pb db ob mb kb R N F Y es ks P j) {p : Nat} (hp : p < 4096) {f : Int} (hf : f ≠ 0) {b : Bool} (hF : Filled wa wb pb db ob P R 9 N F Y p f b P' N') (hpool : PoolAt w' pb db ob P') (hm : MapAt w' mb (put es p (wayV f b))) (hk : MapAt w' kb (put ks p (.bool true))) :
    RunW w' base pb db ob mb kb R N' (updI F p f) (updB Y p b) (put es p (wayV f b)) (put ks p (.bool true)) P' (j + 1) := by
  have hmore := h.tab.more p hp hF.new
  have h3 := needT_le N p
  have hn := hF.mv.n
  refine ⟨hpool, hF.tab, hm, hk, h.like.put p hp f hf b, keys_put h.keys p hp _, h.ways.put p _ hF.new, by rw [hn, h.n], ?_, ?_, ?_, h.ne, h.base⟩
  · rw [hn, hF.cnt, h.cnt, hmore]
  · have := hF.left; have := h.left; omega
  · have := h.most; omega
theorem RunW.refused (h : RunW w base pb db ob mb kb R N F Y es ks P j) {p : Nat} (hp : p < 4096) (hne : needT N p ≠ 0) (hpool : PoolAt w' pb db ob P') (hT : Tab P' R 9 N F Y) (hn : P'.n = P.n) (hl : P'.left = P.left) (hc : countTo P'.O 9 P.n = countTo P.O 9 P.n)
    (hm : MapAt w' mb es) (v : Value) (hk : MapAt w' kb (del (put ks p v) p)) : RunW w' base pb db ob mb kb R N F Y es (del (put ks p v) p) P' (j + 1) := by
  have hno : ∀ q ∈ ks, q.1 ≠ (p : Int) := fun q hq e => hne (by
    have h0 : ∀ i, i ≤ 3 → N (nd p i) ≠ 0 := fun i hi => (h.ways _).2 (by
      have et : q.1.toNat = p := by omega
      have hi' : i = 0 ∨ i = 1 ∨ i = 2 ∨ i = 3 := by omega
      rcases hi' with rfl | rfl | rfl | rfl
      · exact .inl rfl
      · exact .inr ⟨q, hq, by rw [et]; exact .inl rfl⟩
      · exact .inr ⟨q, hq, by rw [et]; exact .inr (.inl rfl)⟩
      · exact .inr ⟨q, hq, by rw [et]; exact .inr (.inr rfl)⟩)
    exact needT_none N p h0)
  have he : ∀ q, q ∈ ks ↔ q ∈ del (put ks p v) p := fun q => by
    rw [mem_del]
    constructor
    · intro hq; exact ⟨put_old hq (hno q hq), hno q hq⟩
    · rintro ⟨h1, h2⟩
      rcases mem_put h1 with rfl | ⟨h3, _⟩
      · exact absurd rfl h2
      · exact h3
  refine ⟨hpool, hT, hm, hk, h.like, fun q hq => h.keys q ((he q).2 hq), h.ways.iff he, by rw [hn, h.n], by rw [hn, hc, h.cnt], by rw [hl]; exact h.left, by have := h.most; omega, h.ne, h.base⟩
theorem RunW.dropped (h : RunW w base pb db ob mb kb R N F Y es ks P j) (hG : AllGone wa wb pb db ob P R 9 N Y P') (hpool : PoolAt w' pb db ob P') (hm : MapAt w' mb []) (hk : MapAt w' kb []) :
    ∃ N', RunW w' base pb db ob mb kb R N' noF Y [] [] P' (j + 1) := by
  obtain ⟨N', F', hT, hz, hF⟩ := hG.tab
  have hn := hG.mv.n
  refine ⟨Go.Proofs.Ytndnjimiabpkpaa.cut585 N', ?_⟩
  have hT' := hT.cut585
  have hw : Ways (Go.Proofs.Ytndnjimiabpkpaa.cut585 N') [] := by
    intro n
    by_cases e : n = 0
    · subst e
      simp only [true_or, iff_true]
      have := hT'.root
      rw [this]; exact hT'.r0
    · simp only [e, false_or]
      constructor
      · intro h1
        by_cases c : n < 585
        · rw [cut585_lt _ c] at h1; exact absurd (hz n (by omega) c) h1
        · rw [cut585_ge _ c] at h1; exact absurd rfl h1
      · rintro ⟨q, hq, _⟩; simp at hq
  have h1 : cntN (Go.Proofs.Ytndnjimiabpkpaa.cut585 N') 585 = 1 := by
    rw [hw.same Ways.nil (fun q => Iff.rfl)]; decide +kernel
  refine ⟨hpool, ?_, hm, hk, .nil Y, fun q hq => by simp at hq, hw, by rw [hn, h.n], ?_, ?_, ?_, h.ne, h.base⟩
  · exact hT'.leafs (fun p hp => hF p hp)
  · have := hG.cnt; have := h.cnt; rw [hn, h1]; omega
  · have := hG.left; have := h.left; omega
  · rw [h1]; omega
end
end Go.Proofs.Ytndnjimiabpkpaa
