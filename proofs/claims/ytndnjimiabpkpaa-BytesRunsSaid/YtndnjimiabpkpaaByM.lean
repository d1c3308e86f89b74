/- Two segments of one pool and the lists of bytes that they are held against: the invariant of glacislaw14.BytesRuns. -/
import Derived.Test.YtndnjimiabpkpaaSgF
namespace Go.Proofs.Ytndnjimiabpkpaa
open Go.RowKit
attribute [local irreducible] World.setCell World.alloc World.drew World.setRow Calls Code.wp row

theorem wi_any (size off n : Int) (w : World) (h0 : 0 ≤ size) (h1 : size ≤ 1024) (ho : (Lit.int .i64 off).wf = true) (hn : (Lit.int .i64 n).wf = true) :
    Calls Try.prog 58 #[.int .i64 size, .int .i64 off, .int .i64 n] w fun e w' =>
      e = .returned (.bool (decide (0 ≤ n) && decide (0 ≤ off) && decide (off ≤ size) && decide (n ≤ size - off))) ∧ w = w' := by
  have hn := wf_i64 hn; have ho := wf_i64 ho
  by_cases c1 : 0 ≤ n
  · by_cases c2 : 0 ≤ off
    · by_cases c3 : off ≤ size
      · by_cases c4 : n ≤ size - off
        · go_enter Try.func58, Try.ntmps58
          go_wp2_with fail
          go_ret
          exact ⟨by simp [c1, c2, c3, c4], rfl⟩
        · go_enter Try.func58, Try.ntmps58
          go_wp2_with fail
          go_ret
          exact ⟨by simp; omega, rfl⟩
      · go_enter Try.func58, Try.ntmps58
        go_wp2_with fail
        go_ret
        exact ⟨by simp; omega, rfl⟩
    · go_enter Try.func58, Try.ntmps58
      go_wp2_with fail
      go_ret
      exact ⟨by simp; omega, rfl⟩
  · go_enter Try.func58, Try.ntmps58
    go_wp2_with fail
    go_ret
    exact ⟨by simp; omega, rfl⟩
theorem wi_seg (L : List Int) (off n : Int) : (decide (0 ≤ n) && decide (0 ≤ off) && decide (off ≤ segS L) && decide (n ≤ segS L - off)) = segW L off n := rfl

/-- Entry i of a pair turned. -/
def upd {α : Type} (f : Nat → α) (i : Nat) (a : α) : Nat → α := fun j => if j = i then a else f j
theorem upd_same {α : Type} (f : Nat → α) (i : Nat) (a : α) : upd f i a i = a := if_pos rfl
theorem upd_ne {α : Type} (f : Nat → α) (i j : Nat) (a : α) (h : j ≠ i) : upd f i a j = f j := if_neg h
def duo (v : Nat → Value) : Array Value := #[v 0, v 1]
theorem duo_at (v : Nat → Value) (i : Nat) (h : i < 2) : (duo v)[i]? = some (v i) := by
  rcases i with _ | _ | i
  · rfl
  · rfl
  · omega
theorem duo_set (v : Nat → Value) (i : Nat) (h : i < 2) (u : Value) : (duo v).setIfInBounds i u = duo (upd v i u) := by
  rcases i with _ | _ | i
  · rfl
  · rfl
  · omega

/-- A list of n bytes: nil, or a row of its own. -/
def RowIn (w : World) (lo : Nat) (x : Value) (n : Nat) (D : Nat → Int) : Prop :=
  (x = .slice none 0 0 ∧ n = 0) ∨ ∃ g, x = .slice (some ⟨g, 0, none⟩) n n ∧ lo ≤ g ∧ Blk w g (row n fun j => .int .u8 (D j)) 5
theorem RowIn.kept {S : Nat → Prop} {w w' : World} {lo : Nat} {x : Value} {n : Nat} {D : Nat → Int} (h : RowIn w lo x n D) (k : Kept S w w') (hs : ∀ g, x.ownBlock = some g → ¬ S g) : RowIn w' lo x n D := by
  rcases h with h | ⟨g, rfl, h1, h2⟩
  · exact .inl h
  · exact .inr ⟨g, rfl, h1, k.blk h2 (hs g rfl)⟩
theorem RowIn.lt {w : World} {lo : Nat} {x : Value} {n : Nat} {D : Nat → Int} (h : RowIn w lo x n D) : ∀ g, x.ownBlock = some g → lo ≤ g ∧ g < w.heap.size := by
  intro g hg
  rcases h with ⟨rfl, _⟩ | ⟨g', rfl, h1, h2⟩
  · cases hg
  · injection hg with hg; subst hg
    exact ⟨h1, h2.lt⟩
theorem RowIn.congr {w : World} {lo : Nat} {x : Value} {n : Nat} {D E : Nat → Int} (h : RowIn w lo x n D) (e : ∀ j, j < n → D j = E j) : RowIn w lo x n E := by
  rcases h with h | ⟨g, rfl, h1, h2⟩
  · exact .inl h
  · exact .inr ⟨g, rfl, h1, h2.cells (row_congr fun j hj => by rw [e j hj])⟩

/-- Two segments, of the owners 1 and 2. -/
structure Segs (w : World) (sb pb db ob lo : Nat) (v : Nat → Value) (L : Nat → List Int) (P : Pool) : Prop where
  pool : PoolAt w pb db ob P
  hb : Blk w sb (duo v) 54
  fr : ∀ i, i < 2 → FrIn w lo (v i) (L i)
  h16 : ∀ i, i < 2 → (L i).length ≤ 16
  inn : ∀ i : Nat, i < 2 → SegIn P ((i : Int) + 1) (L i)
  vv : ∀ i j, i < 2 → j < 2 → i ≠ j → ∀ g, (v i).ownBlock = some g → (v j).ownBlock ≠ some g
  sl : sb < lo
  lp : pb < sb ∧ db < sb ∧ ob < sb
  hlo : lo ≤ w.heap.size
/-- Two lists of bytes. -/
structure Lists (w : World) (mb lo : Nat) (x : Nat → Value) (N : Nat → Nat) (D : Nat → Nat → Int) : Prop where
  hb : Blk w mb (duo x) 32
  r : ∀ i, i < 2 → RowIn w lo (x i) (N i) (D i)
  xx : ∀ i j, i < 2 → j < 2 → i ≠ j → ∀ g, (x i).ownBlock = some g → (x j).ownBlock ≠ some g
  ml : mb < lo
section
variable {w w' : World} {sb mb pb db ob lo : Nat} {v x : Nat → Value} {L : Nat → List Int} {P : Pool} {N : Nat → Nat} {D : Nat → Nat → Int} {S : Nat → Prop} {X : Value} {n : Nat} {E : Nat → Int}
theorem Segs.at (h : Segs w sb pb db ob lo v L P) {i : Nat} (hi : i < 2) : SegAt w sb i (duo v) lo (v i) (L i) :=
  ⟨h.hb, duo_at v i hi, h.fr i hi, h.sl, h.h16 i hi⟩
theorem Segs.seg (h : Segs w sb pb db ob lo v L P) {i : Nat} (hi : i < 2) : Seg w sb i pb db ob (duo v) lo (v i) (L i) P ((i : Int) + 1) :=
  ⟨h.at hi, h.pool, h.inn i hi, h.hlo, h.lp⟩
theorem Segs.below (h : Segs w sb pb db ob lo v L P) (k : Below w.heap.size w w') : Segs w' sb pb db ob lo v L P :=
  have hk : Kept (fun _ => False) w w' := Kept.of_below k
  ⟨h.pool.below k, hk.blk h.hb (fun h => h), fun i hi => (h.fr i hi).kept hk (fun _ _ h => h), h.h16, h.inn, h.vv, h.sl, h.lp, Nat.le_trans h.hlo k.size⟩
theorem Segs.put {P' : Pool} {i q m : Nat} {B : Nat → Int} (h : Segs w sb pb db ob lo v L P) (hP : PoolAt w' pb db ob P') (hD : SegPut P P' (L i) q m B) (hK : Kept (PS pb db ob) w w') : Segs w' sb pb db ob lo v L P' := by
  have s0 := h.seg (i := 0) (by omega)
  refine ⟨hP, hK.blk h.hb s0.n1, fun j hj => (h.fr j hj).kept hK (h.seg hj).n3, h.h16, fun j hj => hD.segIn (h.inn j hj), h.vv, h.sl, h.lp, Nat.le_trans h.hlo hK.size⟩
theorem Segs.put_data {P' : Pool} {i q m : Nat} {B : Nat → Int} (h : Segs w sb pb db ob lo v L P) (hi : i < 2) (hD : SegPut P P' (L i) q m B) {k : Nat} (hk : k < 2) (j : Nat) (hj : j < (L k).length * 64) :
    segD P' (L k) j = if k = i ∧ q ≤ j ∧ j < q + m then B (j - q) else segD P (L k) j := by
  by_cases e : k = i
  · subst e
    rw [hD.D j hj]
    by_cases c : q ≤ j ∧ j < q + m
    · rw [if_pos c, if_pos ⟨rfl, c⟩]
    · rw [if_neg c, if_neg (fun h => c h.2)]
  · rw [if_neg (fun h => e h.1)]
    exact hD.apart (h.inn i hi) (h.inn k hk) (by omega) j hj
theorem Lists.kept (h : Lists w mb lo x N D) (k : Kept S w w') (h1 : ¬ S mb) (hs : ∀ i, i < 2 → ∀ g, (x i).ownBlock = some g → ¬ S g) : Lists w' mb lo x N D :=
  ⟨k.blk h.hb h1, fun i hi => (h.r i hi).kept k (hs i hi), h.xx, h.ml⟩
theorem Lists.below (h : Lists w mb lo x N D) (k : Below w.heap.size w w') : Lists w' mb lo x N D :=
  h.kept (S := fun _ => False) (Kept.of_below k) (fun h => h) (fun _ _ _ _ h => h)
theorem Lists.congr {N' : Nat → Nat} {E : Nat → Nat → Int} (h : Lists w mb lo x N D) (n : ∀ i, i < 2 → N i = N' i) (e : ∀ i, i < 2 → ∀ j, j < N i → D i j = E i j) : Lists w mb lo x N' E :=
  ⟨h.hb, fun i hi => n i hi ▸ (h.r i hi).congr (e i hi), h.xx, h.ml⟩
theorem RowIn.open (h : RowIn w lo X n E) : ∃ a, X = .slice a n n := by
  rcases h with ⟨rfl, rfl⟩ | ⟨g, rfl, _⟩
  · exact ⟨_, rfl⟩
  · exact ⟨_, rfl⟩
/-- Two segments, and the lists that they are held against. -/
structure Two (w : World) (base sb mb pb db ob lo : Nat) (v x : Nat → Value) (L : Nat → List Int) (P : Pool) : Prop where
  sg : Segs w sb pb db ob lo v L P
  ls : Lists w mb lo x (fun i => (L i).length * 64) (fun i => segD P (L i))
  vx : ∀ i j, i < 2 → j < 2 → ∀ g, (v i).ownBlock = some g → (x j).ownBlock ≠ some g
  lm : pb < mb ∧ db < mb ∧ ob < mb ∧ sb ≠ mb
  left : P.left + (L 0).length + (L 1).length = 20
  bs : base ≤ pb ∧ base ≤ db ∧ base ≤ ob
theorem Two.below {base : Nat} (h : Two w base sb mb pb db ob lo v x L P) (k : Below w.heap.size w w') : Two w' base sb mb pb db ob lo v x L P :=
  ⟨h.sg.below k, h.ls.below k, h.vx, h.lm, h.left, h.bs⟩
theorem Two.base {b : Nat} (h : Two w b sb mb pb db ob lo v x L P) : b ≤ w.heap.size := by
  have := h.bs; have := h.sg.pool.hp.lt; omega
/-- What a call leaves. -/
def PlayPost (w0 : World) (base sb mb pb db ob lo : Nat) (w' : World) : Prop := Below base w0 w' ∧ ∃ v x L P, Two w' base sb mb pb db ob lo v x L P
end
end Go.Proofs.Ytndnjimiabpkpaa
