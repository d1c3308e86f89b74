/- Segments in use: a new one; Frame; the law's own example of a segment (fit) returns true. -/
import Derived.Test.YtndnjimiabpkpaaSgR
import Derived.Test.YtndnjimiabpkpaaFrFit
namespace Go.Proofs.Ytndnjimiabpkpaa
open Go.RowKit
attribute [local irreducible] World.setCell World.alloc World.drew World.setRow Calls Code.wp row

theorem countTo_zero' (o : Int) (h : o ≠ 0) (n : Nat) : countTo (fun _ => 0) o n = 0 := by
  induction n with
  | zero => rfl
  | succ n ih => unfold countTo; rw [ih, if_neg (fun e => h e.symm)]
theorem segIn_new (n : Nat) (o : Int) (h : o ≠ 0) : SegIn (newPool n) o [] := ⟨List.nodup_nil, fun _ hf => by simp at hf, h, countTo_zero' o h n⟩
theorem seg_new (w : World) : SegAt (w.alloc (.cells #[.slice none 0 0] 54)) w.heap.size 0 #[.slice none 0 0] (w.heap.size + 1) (.slice none 0 0) [] :=
  ⟨Blk.new _ _ _, rfl, .inl ⟨rfl, rfl⟩, by omega, by simp⟩
theorem SegPut.left {P P' : Pool} {L : List Int} {q d : Nat} {B : Nat → Int} (h : SegPut P P' L q d B) : P'.left = P.left := by unfold Pool.left; rw [h.n, h.O]

/-- All that is known of a segment of o's: in memory, and its pool. -/
structure Seg (w : World) (sb si pb db ob : Nat) (cs : Array Value) (lo : Nat) (v : Value) (L : List Int) (P : Pool) (o : Int) : Prop where
  seg : SegAt w sb si cs lo v L
  pool : PoolAt w pb db ob P
  inn : SegIn P o L
  lo : lo ≤ w.heap.size
  lp : pb < sb ∧ db < sb ∧ ob < sb
section
variable {w w' : World} {sb si pb db ob : Nat} {cs : Array Value} {lo : Nat} {v : Value} {L : List Int} {P : Pool} {o : Int}
theorem Seg.n1 (h : Seg w sb si pb db ob cs lo v L P o) : ¬ PS pb db ob sb := by
  have := h.lp; rintro (e | e | e) <;> omega
theorem Seg.n2 (h : Seg w sb si pb db ob cs lo v L P o) : ∀ g, lo ≤ g → ¬ PS pb db ob g := by
  have := h.lp; have := h.seg.hl; intro g hg; rintro (e | e | e) <;> omega
theorem Seg.n3 (h : Seg w sb si pb db ob cs lo v L P o) : ∀ g, v.ownBlock = some g → ¬ PS pb db ob g := fun g hg => h.n2 g (h.seg.hv.lt g hg).1
theorem Seg.below (h : Seg w sb si pb db ob cs lo v L P o) (hb : Below w.heap.size w w') : Seg w' sb si pb db ob cs lo v L P o :=
  ⟨h.seg.below hb, h.pool.below hb, h.inn, Nat.le_trans h.lo hb.size, h.lp⟩
theorem Seg.drewN (h : Seg w sb si pb db ob cs lo v L P o) (k : Nat) : Seg (w.drewN k) sb si pb db ob cs lo v L P o :=
  h.below (Below.mk rfl rfl rfl (Nat.le_refl _) (fun _ _ => rfl))
theorem Seg.alloc (h : Seg w sb si pb db ob cs lo v L P o) (x : Obj) : Seg (w.alloc x) sb si pb db ob cs lo v L P o :=
  h.below ((Below.refl _ _).alloc (Nat.le_refl _) x)
theorem Seg.put {P' : Pool} {q m : Nat} {B : Nat → Int} (h : Seg w sb si pb db ob cs lo v L P o) (hP : PoolAt w' pb db ob P') (hD : SegPut P P' L q m B) (hK : Kept (PS pb db ob) w w') : Seg w' sb si pb db ob cs lo v L P' o :=
  ⟨h.seg.kept hK h.n1 h.n3, hP, hD.segIn h.inn, Nat.le_trans h.lo hK.size, h.lp⟩
theorem Seg.sized {n : Nat} {v' : Value} {L' : List Int} {P' : Pool} (h : Seg w sb si pb db ob cs lo v L P o) (hR : Resized w w' sb si pb db ob cs lo v L P o n v' L' P') : Seg w' sb si pb db ob (cs.setIfInBounds si v') lo v' L' P' o :=
  ⟨hR.seg, hR.pool, hR.inn, Nat.le_trans h.lo hR.kept.size, h.lp⟩
/-- What lies below all that a segment has stays. -/
theorem seg_ps {B : Nat} (hB : B ≤ pb ∧ B ≤ db ∧ B ≤ ob) (hw : B ≤ w.heap.size) (hK : Kept (PS pb db ob) w w') : Below B w w' :=
  hK.below hw (fun k hk e => by rcases e with e | e | e <;> omega)
theorem Seg.rs {B : Nat} (h : Seg w sb si pb db ob cs lo v L P o) (hB : B ≤ pb ∧ B ≤ db ∧ B ≤ ob) (hw : B ≤ w.heap.size) (hK : Kept (RS pb db ob sb v) w w') : Below B w w' :=
  hK.below hw (fun k hk e => by
    have h1 := h.lp; have h2 := h.seg.hl
    rcases e with (e | e | e) | e | e
    · omega
    · omega
    · omega
    · omega
    · have := (h.seg.hv.lt k e).1; omega)
end

theorem frame_yes (sb si : Nat) (cs : Array Value) (lo : Nat) (v : Value) (L : List Int) (i : Nat) (w : World) (hS : SegAt w sb si cs lo v L) (hi : i < L.length) :
    Calls Try.prog 31 #[.pointer (some ⟨sb, si, none⟩), .int .i64 i] w fun e w' => e = .returned (.int .i64 (L.getD i 0)) ∧ w = w' := by
  obtain ⟨a, cap, g, hv, h1, h2, h3, h4⟩ := hS.hv.open
  obtain rfl := h3 (by omega)
  have hc := hS.cell
  rw [hv] at hc
  have hcl := h4 i hi
  have HS := Lib.hid hS
  have hi' : ¬ (L.length : Int) ≤ i := by omega
  clear hS h4 h3 hv
  go_enter Try.func31, Try.ntmps31
  go_wp2_with fail
  refine (pages_any sb si cs lo v L _ HS.out).mono ?_
  rintro e w' ⟨rfl, rfl⟩
  go_wp2_with fail
  go_ret
  exact ⟨by simp [List.getD, hi], rfl⟩
theorem frame_no (sb si : Nat) (cs : Array Value) (lo : Nat) (v : Value) (L : List Int) (i : Int) (w : World) (hS : SegAt w sb si cs lo v L) (hi : i < 0 ∨ (L.length : Int) ≤ i) :
    Calls Try.prog 31 #[.pointer (some ⟨sb, si, none⟩), .int .i64 i] w fun e w' => e = .returned (.int .i64 0) ∧ w = w' := by
  have HS := Lib.hid hS
  by_cases h0 : i < 0
  · clear hi hS
    go_enter Try.func31, Try.ntmps31
    go_wp2_with fail
    go_ret
    exact ⟨rfl, rfl⟩
  · have h1 : (L.length : Int) ≤ i := hi.resolve_left h0
    clear hi hS
    go_enter Try.func31, Try.ntmps31
    go_wp2_with fail
    refine (pages_any sb si cs lo v L _ HS.out).mono ?_
    rintro e w' ⟨rfl, rfl⟩
    go_wp2_with fail
    go_ret
    exact ⟨rfl, rfl⟩

/-- Resize, told of all that is known of a segment. -/
theorem Seg.resize {w : World} {sb si pb db ob : Nat} {cs : Array Value} {lo : Nat} {v : Value} {L : List Int} {P : Pool} {o : Int} (h : Seg w sb si pb db ob cs lo v L P o) (n : Nat) (hf : segR P L o n = true) :
    Calls Try.prog 28 #[.pointer (some ⟨sb, si, none⟩), .pointer (some ⟨pb, 0, none⟩), .int .u64 o, .int .i64 n] w fun e w' => e = .returned (.bool true) ∧ ∃ v' L' P', Resized w w' sb si pb db ob cs lo v L P o n v' L' P' ∧ Seg w' sb si pb db ob (cs.setIfInBounds si v') lo v' L' P' o :=
  (resize_yes sb si pb db ob cs lo v L P o n w h.seg h.pool h.inn hf h.lo h.n1 h.n2).mono fun _ _ ⟨h1, v', L', P', h2⟩ => ⟨h1, v', L', P', h2, h.sized h2⟩
theorem Seg.put_yes {w : World} {sb si pb db ob : Nat} {cs : Array Value} {lo : Nat} {v : Value} {L : List Int} {P : Pool} {o : Int} (h : Seg w sb si pb db ob cs lo v L P o) (q m : Nat) (x : Int) (h0 : 0 ≤ x) (h1 : x ≤ 18446744073709551615) (hf : segM L q m = true) :
    Calls Try.prog 34 #[.pointer (some ⟨sb, si, none⟩), .pointer (some ⟨pb, 0, none⟩), .int .i64 q, .int .i64 m, .int .u64 x] w fun e w' =>
      e = .returned (.bool true) ∧ ∃ P', SegPut P P' L q m (byN m x) ∧ Kept (PS pb db ob) w w' ∧ Seg w' sb si pb db ob cs lo v L P' o :=
  (sput_yes sb si pb db ob cs lo v L P o q m x w h0 h1 h.seg h.pool h.inn hf h.n1 h.n3).mono fun _ _ ⟨h1, P', h2, h3, h4⟩ => ⟨h1, P', h3, h4, h.put h2 h3 h4⟩

set_option maxHeartbeats 1000000 in
theorem fit14_any (w : World) :
    Calls Try.prog 27 #[] w fun e w' => e = .returned (.bool true) ∧ Below w.heap.size w w' := by
  go_enter Try.func27, Try.ntmps27
  go_wp2_with fail
  refine (new_any 4 _ (by omega) (by omega)).mono ?_
  rintro e w1 ⟨pb, db, ob, rfl, hP, l1, l2, l3, hb⟩
  have hsz := hb.size
  have hlp : pb < w1.heap.size ∧ db < w1.heap.size ∧ ob < w1.heap.size := ⟨hP.hp.lt, hP.hd.lt, hP.ho.lt⟩
  have HB : Hid (w.heap.size ≤ pb ∧ w.heap.size ≤ db ∧ w.heap.size ≤ ob) := ⟨l1, l2, l3⟩
  have HS : Hid (Seg (w1.alloc (.cells #[.slice none 0 0] 54)) w1.heap.size 0 pb db ob #[.slice none 0 0] (w1.heap.size + 1) (.slice none 0 0) [] (newPool 4) 1) :=
    ⟨seg_new w1, hP.alloc _, segIn_new 4 1 (by omega), by simp, hlp⟩
  have Hb := Lib.hid (hb.alloc hsz (.cells #[.slice none 0 0] 54))
  clear hP hb hlp l1 l2 l3
  go_wp2_with fail
  have hf1 : segR (newPool 4) [] 1 ((1 : Nat) : Int) = true := by decide
  refine (HS.out.resize 1 hf1).mono ?_
  rintro e w2 ⟨rfl, v', L', P', hR, hS2⟩
  have hlen := hR.len
  have hleft := hR.left
  have hl3 : P'.left = 3 := by
    have e1 : (newPool 4).left = 4 := by decide
    simp at hleft; omega
  have HS2 := Lib.hid hS2
  have Hb2 := Lib.hid (Hb.out.trans (HS.out.rs HB.out (by simp; omega) hR.kept))
  have Hl3 := Lib.hid hl3; have Hlen := Lib.hid hlen
  clear hR hS2 hlen hleft hl3 hf1
  have hs : segS L' = 64 := by unfold segS; rw [Hlen.out]; rfl
  have hm1 : segM L' 60 8 = false := by unfold segM segW; rw [hs]; decide
  have hm2 : segM L' ((56 : Nat) : Int) ((8 : Nat) : Int) = true := by unfold segM segW; rw [hs]; decide
  have Hs := Lib.hid hs; have Hm1 := Lib.hid hm1; have Hm2 := Lib.hid hm2
  clear hs hm1 hm2
  go_wp2_with fail
  refine (sput_no _ 0 pb _ _ _ _ 60 8 1 _ (by omega) (by omega) HS2.out.seg Hm1.out).mono ?_
  rintro e w3 ⟨rfl, hb3⟩
  have HS3 := Lib.hid (HS2.out.below hb3)
  have hsz2 := Hb2.out.size
  have Hb3 := Lib.hid (Hb2.out.trans (hb3.mono hsz2)); clear hb3
  go_wp2_with fail
  refine (HS3.out.put_yes 56 8 258 (by omega) (by omega) Hm2.out).mono ?_
  rintro e w4 ⟨rfl, P4, hD, hK, hS4⟩
  have HS4 := Lib.hid hS4
  have Hl4 := Lib.hid (hD.left.trans Hl3.out)
  have Hb4 := Lib.hid (Hb3.out.trans (seg_ps HB.out Hb3.out.size hK))
  clear hS4 hD hK
  go_wp2_with fail
  refine (size_any _ 0 _ _ _ _ _ HS4.out.seg).mono ?_
  rintro e w5 ⟨rfl, rfl⟩
  rw [Hs.out]
  go_wp2_with fail
  refine (left_any pb db ob P4 _ HS4.out.pool).mono ?_
  rintro e w5 ⟨rfl, rfl⟩
  rw [Hl4.out]
  go_wp2_with fail
  go_ret
  exact ⟨rfl, Hb4.out⟩
end Go.Proofs.Ytndnjimiabpkpaa
