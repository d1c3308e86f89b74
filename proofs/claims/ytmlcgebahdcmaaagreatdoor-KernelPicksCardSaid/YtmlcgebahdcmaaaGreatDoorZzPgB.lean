/- Of the proof of this claim: a joined text. -/
import Derived.Test.YtmlcgebahdcmaaaGreatDoorZzSgQ
import Derived.Test.YtmlcgebahdcmaaaGreatDoorZzPkC
set_option maxRecDepth 100000
set_option maxHeartbeats 4000000
namespace Go.Proofs.YtmlcgebahdcmaaaGreatDoor
open Go.RowKit
attribute [local irreducible] World.setCell World.alloc World.drew World.setRow Calls Code.wp row
theorem entry_any (pb db ob : Nat) (P : Pool) (t : Int) (i : Nat) (w : World) (hP : PoolAt w pb db ob P) (ho : P.owner t ≠ 0) (hi : i < 8) :
  Calls Tryz.prog 276 #[.pointer (some ⟨pb, 0, none⟩), .int .i64 t, .int .i64 i] w fun e w' => e = .returned (.int .u64 (ent P t i)) /\ Below w.heap.size w w' := by
 have hfit := fits8 P t i hi ho
 have HP := Lib.hid hP; have Hfit := Lib.hid hfit; have Hbd := Lib.hid hP.bd
 have hi8 : (i : Int) < 8 := by omega
 clear hP hfit ho
 go_enter Tryz.func276, Tryz.ntmps276
 go_wp2_with fail
 refine (read_yes pb db ob P t ((i : Int) * 8) 8 _ HP.out Hfit.out).mono ?_
 rintro e w2 ⟨r, rfl, hown, hb2⟩
 have hb2' := hb2.size
 have hown8 : w2.ownsRow w.heap.size 5 1 r 8 (P.cells ((t.toNat - 1) * 64 + ((i : Int) * 8).toNat) 8) := hown
 obtain ⟨g, gc, cur, rfl, hg, hgh, hgc, hgm, _⟩ := hown8.2.resolve_left (by rintro ⟨_, h0⟩; omega)
 have hcell : ∀ j, j < 8 -> w2.cell? ⟨g, 0 + j, none⟩ = some (.int .u8 (P.D ((t.toNat - 1) * 64 + i * 8 + j))) := fun j hj => by
  rw [Nat.zero_add, hown8.cellAt j (by omega)]
  have e : ((i : Int) * 8).toNat = i * 8 := by omega
  simp only [Pool.cells, e]
  rw [List.getElem?_map, List.getElem?_range hj]; rfl
 have hgl : g < w2.heap.size := (Array.getElem?_eq_some_iff.1 hgh).1
 have Hcell := Lib.hid hcell; have Hb2 := Lib.hid hb2
 clear hown hown8 hcell hb2 hgh
 go_wp2_with fail
 refine (pnew_any _ _ _ _).mono ?_
 rintro e w3 ⟨rfl, hw3⟩
 have hR : RdAt w3 w2.heap.size (some ⟨g, 0, none⟩) 8 gc 0 := by rw [hw3]; exact Blk.new _ _ _
 have Hc3 : Hid (∀ j, j < 8 -> w3.cell? ⟨g, 0 + j, none⟩ = some (.int .u8 (P.D ((t.toNat - 1) * 64 + i * 8 + j)))) := fun j hj => by
  rw [hw3, World.cell?_alloc_some _ _ _ (by rw [Hcell.out j hj]; rfl)]; exact Hcell.out j hj
 have Hb3 : Hid (Below w.heap.size w w3) := by unfold Hid; rw [hw3]; exact Hb2.out.alloc Hb2.out.size _
 have HR := Lib.hid hR
 clear hR hw3
 go_wp2_with fail
 refine (num_any w2.heap.size g 0 8 gc 0 8 (fun j => P.D ((t.toNat - 1) * 64 + i * 8 + j)) _ HR.out Hc3.out (fun j => Hbd.out _) (by omega) (by omega) (by omega) hgc hgm (by omega)).mono ?_
 rintro e w4 ⟨rfl, _, hK4⟩
 have Hb4 : Hid (Below w.heap.size w w4) := Hb3.out.trans (hK4.below Hb3.out.size (fun i hi e => by omega))
 clear hK4
 go_wp2_with fail
 go_ret
 exact ⟨by simp [ent], Hb4.out⟩
theorem set_any (pb db ob : Nat) (P : Pool) (t : Int) (i : Nat) (x : Int) (w : World) (hP : PoolAt w pb db ob P) (hi : i < 8) (h0 : 0 <= x) (h1 : x <= 18446744073709551615) :
  Calls Tryz.prog 277 #[.pointer (some ⟨pb, 0, none⟩), .int .i64 t, .int .i64 i, .int .u64 x] w fun e w' => e = .returned (.tuple #[]) /\ PoolAt w' pb db ob (P.setE t i x) /\ Kept (PS pb db ob) w w' := by
 have HP := Lib.hid hP; have H0 := Lib.hid h0; have H1 := Lib.hid h1
 have hi8 : (i : Int) < 8 := by omega
 clear hP h0 h1
 go_enter Tryz.func277, Tryz.ntmps277
 go_wp2_with fail
 refine (put_any 8 x _ (by omega) H0.out H1.out).mono ?_
 rintro e w2 ⟨r, rfl, hown, hb2⟩
 obtain ⟨g, gc, cur, rfl, hg, hgh, hgc, hgm, _⟩ := hown.2.resolve_left (by rintro ⟨_, h0⟩; omega)
 have Hcell : Hid (BytesIn w2 (some ⟨g, 0, none⟩) 8 (byN 8 x)) := by
  refine .inr ⟨g, 0, rfl, fun j hj => ?_⟩
  rw [Nat.zero_add, hown.cellAt j (by omega)]; simp [hj]
 have HP2 := Lib.hid (HP.out.below hb2)
 have Hb2 := Lib.hid hb2
 clear hown hb2 hgh
 go_wp2_with fail
 refine (write_any pb db ob P t ((i : Int) * 8) _ 8 _ (byN 8 x) _ HP2.out Hcell.out (fun j _ => byN_bd _ _ _)).mono ?_
 rintro e w3 ⟨rfl, hP3, hK3⟩
 have HP3 := Lib.hid hP3; have HK3 := Lib.hid ((Kept.of_below (S := PS pb db ob) Hb2.out).trans hK3)
 clear hP3 hK3
 go_wp2_with fail
 go_end0
 exact ⟨rfl, HP3.out, HK3.out⟩
end Go.Proofs.YtmlcgebahdcmaaaGreatDoor
namespace Go.Proofs.YtmlcgebahdcmaaaGreatDoor
open Go.RowKit
def leafE (F : Nat -> Int) (Y : Nat -> Bool) (p : Nat) : Int := if F p = 0 then 0 else F p * 256 + 1 + (if Y p then 2 else 0)
def cntN (N : Nat -> Int) : Nat -> Nat
 | 0 => 0
 | k + 1 => cntN N k + (if N k = 0 then 0 else 1)
structure Tab (P : Pool) (r o : Int) (N : Nat -> Int) (F : Nat -> Int) (Y : Nat -> Bool) : Prop where
 root : N 0 = r
 r0 : r ≠ 0
 o0 : o ≠ 0
 ent : ∀ n, n < 585 -> N n ≠ 0 -> ∀ i, i < 8 -> ent P (N n) i = if 8 * n + 1 + i < 585 then (if N (8 * n + 1 + i) = 0 then 0 else N (8 * n + 1 + i) * 256 + 1) else leafE F Y (8 * n + 1 + i - 585)
 inj : ∀ n m, n < 585 -> m < 585 -> N n ≠ 0 -> N m ≠ 0 -> N n = N m -> n = m
 own : ∀ n, n < 585 -> N n ≠ 0 -> P.owner (N n) = o
 up : ∀ n, 0 < n -> n < 585 -> N n ≠ 0 -> N ((n - 1) / 8) ≠ 0
 leafUp : ∀ p, p < 4096 -> F p ≠ 0 -> N (73 + p / 8) ≠ 0
 lf : ∀ p, p < 4096 -> 0 <= F p /\ F p <= 4294967295
def nd (p : Nat) : Nat -> Nat
 | 0 => 0
 | 1 => 1 + p / 512
 | 2 => 9 + p / 64
 | _ => 73 + p / 8
theorem nd_lt (p l : Nat) (hp : p < 4096) : nd p l < 585 := by
 unfold nd; split <;> omega
theorem nd_step (p l : Nat) (hp : p < 4096) (hl : l < 3) : 8 * nd p l + 1 + p / 8 ^ (3 - l) % 8 = nd p (l + 1) := by
 obtain rfl | rfl | rfl : l = 0 \/ l = 1 \/ l = 2 := by omega
 ·simp only [nd]; omega
 ·simp only [nd]; omega
 ·simp only [nd]; omega
theorem nd_leaf (p : Nat) : 8 * nd p 3 + 1 + p / 8 ^ (3 - 3) % 8 = 585 + p := by simp only [nd]; omega
theorem nd_up (p l : Nat) (hp : p < 4096) (hl : l < 3) : (nd p (l + 1) - 1) / 8 = nd p l := by
 obtain rfl | rfl | rfl : l = 0 \/ l = 1 \/ l = 2 := by omega
 all_goals simp only [nd]; omega
theorem nd_pos (p l : Nat) : 0 < nd p (l + 1) := by
 unfold nd; split <;> omega
section
variable {P : Pool} {r o : Int} {N F : Nat -> Int} {Y : Nat -> Bool}
theorem Tab.way (h : Tab P r o N F Y) (p : Nat) (hp : p < 4096) (hF : F p ≠ 0) (l : Nat) (hl : l <= 3) : N (nd p l) ≠ 0 := by
 have h3 : N (nd p 3) ≠ 0 := h.leafUp p hp hF
 have h2 : N (nd p 2) ≠ 0 := by rw [<- nd_up p 2 hp (by omega)]; exact h.up _ (nd_pos p 2) (nd_lt p 3 hp) h3
 have h1 : N (nd p 1) ≠ 0 := by rw [<- nd_up p 1 hp (by omega)]; exact h.up _ (nd_pos p 1) (nd_lt p 2 hp) h2
 have h0 : N (nd p 0) ≠ 0 := by rw [<- nd_up p 0 hp (by omega)]; exact h.up _ (nd_pos p 0) (nd_lt p 1 hp) h1
 obtain rfl | rfl | rfl | rfl : l = 0 \/ l = 1 \/ l = 2 \/ l = 3 := by omega
 ·exact h0
 ·exact h1
 ·exact h2
 ·exact h3
theorem Tab.bd (h : Tab P r o N F Y) (n : Nat) (hn : n < 585) (h0 : N n ≠ 0) : 1 <= N n /\ N n <= P.n :=
 (P.there_iff _).1 (P.owner_there _ (by rw [h.own n hn h0]; exact h.o0))
theorem Tab.step (h : Tab P r o N F Y) (p l : Nat) (hp : p < 4096) (hl : l < 3) (h0 : N (nd p l) ≠ 0) : Go.Proofs.YtmlcgebahdcmaaaGreatDoor.ent P (N (nd p l)) (p / 8 ^ (3 - l) % 8) = if N (nd p (l + 1)) = 0 then 0 else N (nd p (l + 1)) * 256 + 1 := by
 rw [h.ent _ (nd_lt p l hp) h0 _ (Nat.mod_lt _ (by omega)), nd_step p l hp hl, if_pos (nd_lt p (l + 1) hp)]
theorem Tab.last (h : Tab P r o N F Y) (p : Nat) (hp : p < 4096) (h0 : N (nd p 3) ≠ 0) : Go.Proofs.YtmlcgebahdcmaaaGreatDoor.ent P (N (nd p 3)) (p / 8 ^ (3 - 3) % 8) = leafE F Y p := by
 rw [h.ent _ (nd_lt p 3 hp) h0 _ (Nat.mod_lt _ (by omega)), nd_leaf p, if_neg (by omega), show 585 + p - 585 = p by omega]
end
attribute [local irreducible] World.setCell World.alloc World.drew World.setRow Calls Code.wp row
theorem walk_any (pb db ob : Nat) (P : Pool) (r o : Int) (N F : Nat -> Int) (Y : Nat -> Bool) (p : Nat) (w : World) (hP : PoolAt w pb db ob P) (hT : Tab P r o N F Y) (hp : p < 4096) :
  Calls Tryz.prog 315 #[.pointer (some ⟨pb, 0, none⟩), .int .i64 r, .int .i64 p] w fun e w' =>
   e = .returned (.tuple #[.int .i64 (F p), .bool (decide (F p ≠ 0) && Y p), .bool (decide (F p ≠ 0))]) /\ Below w.heap.size w w' := by
 have HP := Lib.hid hP; have HT := Lib.hid hT
 have hpi : (p : Int) < 4096 := by omega
 have hhi := hP.hi
 clear hP hT
 go_enter Tryz.func315, Tryz.ntmps315
 go_wp2_with fail
 go_loopg [9, 10, 11, 19] 4 (fun g at_ _ _ i wx => ∃ l : Nat, l + g = 4 /\ l <= 3 /\ i = .int .i64 l /\ at_ = .int .i64 (N (nd p l)) /\ N (nd p l) ≠ 0 /\ Below w.heap.size w wx)
 case atStart => exact ⟨0, rfl, by omega, rfl, by show Value.int .i64 r = .int .i64 (N 0); rw [HT.out.root], by show N 0 ≠ 0; rw [HT.out.root]; exact HT.out.r0, Below.refl _ _⟩
 case round =>
  obtain ⟨l, hg, hl3, rfl, rfl, h0, hb⟩ := hrel
  obtain ⟨t, ht⟩ : ∃ t, N (nd p l) = t := ⟨_, rfl⟩
  rw [ht] at h0 ⊢
  have H0 := Lib.hid h0; have Hb := Lib.hid hb; have Ht := Lib.hid ht
  have hpr := HP.out.below hb
  have HPr := Lib.hid hpr
  have hszr := hb.size
  have hown : P.owner t ≠ 0 := by rw [<- ht, HT.out.own _ (nd_lt p l hp) (by rw [ht]; exact h0)]; exact HT.out.o0
  have Hown := Lib.hid hown
  have hli : (l : Int) < 4 := by omega
  clear h0 hb ht hpr hown
  go_wp2_with fail
  refine (index_any l p _ hl3 hp).mono ?_
  rintro e w' ⟨rfl, rfl⟩
  obtain ⟨i, hi⟩ : ∃ i, p / 8 ^ (3 - l) % 8 = i := ⟨_, rfl⟩
  have hi8 : i < 8 := by omega
  rw [hi]
  have Hi := Lib.hid hi; clear hi
  go_wp2_with fail
  refine (entry_any pb db ob P t i _ HPr.out Hown.out hi8).mono ?_
  rintro e w2 ⟨rfl, hb2⟩
  have Hb2 := Lib.hid (Hb.out.trans (hb2.mono hszr))
  clear hb2
  by_cases hl : l < 3
  ·have hst := HT.out.step p l hp hl (by rw [Ht.out]; exact H0.out)
   rw [Ht.out, Hi.out] at hst
   by_cases hc : N (nd p (l + 1)) = 0
   ·rw [if_pos hc] at hst
    have hF : F p = 0 := by
     by_cases h : F p = 0
     ·exact h
     ·exact absurd hc (HT.out.way p hp h (l + 1) (by omega))
    have HF := Lib.hid hF
    have ha : bits .and .u64 0 1 = 0 := by decide
    rw [hst]
    clear hst hc hF
    go_wp2_with fail
    go_ret3
    exact ⟨by rw [HF.out]; rfl, Hb2.out⟩
   ·rw [if_neg hc] at hst
    obtain ⟨c1, c2⟩ := HT.out.bd _ (nd_lt p (l + 1) hp) hc
    obtain ⟨c, hcc⟩ : ∃ c, N (nd p (l + 1)) = c := ⟨_, rfl⟩
    rw [hcc] at hst c1 c2 hc
    have ha : bits .and .u64 (c * 256 + 1) 1 = 1 := by rw [and1_u64 _ (by omega) (by omega)]; omega
    have hd : (c * 256 + 1) / 256 = c := by omega
    have hl3' : ¬ (l : Int) = 3 := by omega
    rw [hst]
    have Hcc := Lib.hid hcc
    have Hc := Lib.hid hc
    clear hst hcc hc
    go_wp2_with fail
    go_roundg (4 - (l + 1))
    case measure => omega
    case rel => exact ⟨l + 1, by omega, by omega, by go_num, by rw [Hcc.out], by rw [Hcc.out]; exact Hc.out, Hb2.out⟩
  ·obtain rfl : l = 3 := by omega
   have hst := HT.out.last p hp (by rw [Ht.out]; exact H0.out)
   rw [Ht.out, Hi.out] at hst
   unfold leafE at hst
   obtain ⟨b1, b2⟩ := HT.out.lf p hp
   obtain ⟨f, hf⟩ : ∃ f, F p = f := ⟨_, rfl⟩
   rw [hf] at hst b1 b2
   have Hf := Lib.hid hf; clear hf
   by_cases h0 : f = 0
   ·rw [if_pos h0] at hst
    have ha : bits .and .u64 0 1 = 0 := by decide
    rw [hst]
    have H0 := Lib.hid h0
    clear hst h0
    go_wp2_with fail
    go_ret3
    exact ⟨by rw [Hf.out, H0.out]; rfl, Hb2.out⟩
   ·rw [if_neg h0] at hst
    cases hy : Y p
    ·rw [hy] at hst
     have hst' : ent P t i = f * 256 + 1 := by rw [hst]; simp
     have ha : bits .and .u64 (f * 256 + 1) 1 = 1 := by rw [and1_u64 _ (by omega) (by omega)]; omega
     have hd : (f * 256 + 1) / 256 = f := by omega
     have ha2 : bits .and .u64 (f * 256 + 1) 2 = 0 := by have := and2_u64 f false b1 b2; simpa using this
     rw [hst']
     have Hy := Lib.hid hy; have H0f := Lib.hid h0
     clear hst hst' hy h0
     go_wp2_with fail
     go_ret3
     exact ⟨by rw [Hf.out, Hy.out]; simp [H0f.out], Hb2.out⟩
    ·rw [hy] at hst
     have hst' : ent P t i = f * 256 + 3 := by rw [hst]; simp; omega
     have ha : bits .and .u64 (f * 256 + 3) 1 = 1 := by rw [and1_u64 _ (by omega) (by omega)]; omega
     have hd : (f * 256 + 3) / 256 = f := by omega
     have ha2 : bits .and .u64 (f * 256 + 3) 2 = 2 := by have := and2_u64 f true b1 b2; rw [if_pos rfl] at this; rw [show f * 256 + 3 = f * 256 + 1 + 2 by omega]; exact this
     rw [hst']
     have Hy := Lib.hid hy; have H0f := Lib.hid h0
     clear hst hst' hy h0
     go_wp2_with fail
     go_ret3
     exact ⟨by rw [Hf.out, Hy.out]; simp [H0f.out], Hb2.out⟩
end Go.Proofs.YtmlcgebahdcmaaaGreatDoor
namespace Go.Proofs.YtmlcgebahdcmaaaGreatDoor
open Go.RowKit
def updB (Y : Nat -> Bool) (i : Nat) (b : Bool) : Nat -> Bool := fun j => if j = i then b else Y j
theorem ent_zero (P : Pool) (t : Int) (i : Nat) (hi : i < 8) (h : ∀ j, j / 64 = t.toNat - 1 -> P.D j = 0) : ent P t i = 0 := by
 have : ∀ k, k <= 8 -> beN (fun j => P.D ((t.toNat - 1) * 64 + i * 8 + j)) k = 0 := by
  intro k
  induction k with
  | zero => intro _; rfl
  | succ k ih => intro hk; unfold beN; rw [ih (by omega), h _ (by omega)]; rfl
 exact this 8 (Nat.le_refl _)
theorem setE_mv (P : Pool) (t o : Int) (i : Nat) (x : Int) (hi : i < 8) (ht : P.owner t = o) (ho : o ≠ 0) : SegMv P (P.setE t i x) o := by
 have hth := P.owner_there t (by rw [ht]; exact ho)
 have hat : P.O (t.toNat - 1) = o := by unfold Pool.owner at ht; rw [if_pos hth] at ht; exact ht
 refine ⟨setE_n _ _ _ _, fun j _ _ _ => by rw [setE_O], fun o' _ _ => by rw [setE_O], fun j _ h0 h1 => setE_other P t i x hi j (fun e => h1 (by rw [e]; exact hat))⟩
section
variable {P : Pool} {r o : Int} {N F : Nat -> Int} {Y : Nat -> Bool}
theorem Tab.root_own (h : Tab P r o N F Y) : P.owner r = o := by
 have := h.own 0 (by omega) (by rw [h.root]; exact h.r0)
 rw [h.root] at this; exact this
theorem Tab.grow (h : Tab P r o N F Y) (n i : Nat) (hn : n < 585) (hi : i < 8) (h0 : N n ≠ 0) (hc : 8 * n + 1 + i < 585) (hN : N (8 * n + 1 + i) = 0) (hl : 1 <= P.left) (hpn : P.n <= 4096) :
  ∃ t, P.allocRet o = t /\ 1 <= t /\ t <= P.n /\ Tab ((P.alloc o).setE (N n) i (t * 256 + 1)) r o (updI N (8 * n + 1 + i) t) F Y /\ SegMv P ((P.alloc o).setE (N n) i (t * 256 + 1)) o /\
   ((P.alloc o).setE (N n) i (t * 256 + 1)).left + 1 = P.left /\ countTo ((P.alloc o).setE (N n) i (t * 256 + 1)).O o P.n = countTo P.O o P.n + 1 := by
 have hff : firstFree P.O P.n < P.n := by
  have h1 := firstFree_le P.O P.n
  rcases Nat.lt_or_ge (firstFree P.O P.n) P.n with h2 | h2
  ·exact h2
  ·have := (freeTo_pos P.O P.n).2 (by omega)
   unfold Pool.left at hl; omega
 have hz0 := firstFree_free P.O P.n hff
 obtain ⟨z, hz⟩ : ∃ z, firstFree P.O P.n = z := ⟨_, rfl⟩
 have hcc : o ≠ 0 /\ firstFree P.O P.n < P.n := ⟨h.o0, hff⟩
 have hr : P.allocRet o = (z : Int) + 1 := by unfold Pool.allocRet; rw [if_pos hcc, hz]
 have ha : P.alloc o = ⟨P.n, updI P.O z o, fun j => if z * 64 <= j /\ j < z * 64 + 64 then 0 else P.D j⟩ := by unfold Pool.alloc; rw [if_pos hcc, hz]
 rw [hz] at hff hz0
 have hno : ∀ m, m < 585 -> N m ≠ 0 -> (N m).toNat - 1 ≠ z := fun m hm hm0 e => by
  have hw := h.own m hm hm0
  have hth := P.owner_there (N m) (by rw [hw]; exact h.o0)
  unfold Pool.owner at hw
  rw [if_pos hth, e, hz0] at hw
  exact h.o0 hw.symm
 have hmv1 : SegMv P (P.alloc o) o := by
  rw [ha]
  refine ⟨rfl, fun j hj h0 h1 => ?_, fun o' h0 h1 => ?_, fun j hj h0 h1 => ?_⟩
  ·show updI P.O z o j = _
   rw [updI_other _ _ _ _ (by rintro rfl; exact h0 hz0)]
  ·have hc := countTo_upd P.O o' o z P.n hff
   rw [hz0, if_neg (fun e => h0 e.symm), if_neg (fun e => h1 e.symm)] at hc
   exact hc
  ·show (if _ then _ else _) = _
   rw [if_neg]
   intro e
   have : j / 64 = z := by omega
   rw [this] at h0; exact h0 hz0
 have hown1 : ∀ f, P.owner f = o -> (P.alloc o).owner f = o := by
  intro f hf
  have hth := P.owner_there f (by rw [hf]; exact h.o0)
  obtain ⟨s1, s2⟩ := (P.there_iff f).1 hth
  rw [ha]
  unfold Pool.owner
  rw [if_pos (by rw [Pool.there_iff]; exact ⟨s1, s2⟩)]
  show updI P.O z o _ = o
  unfold updI
  split
  ·rfl
  ·unfold Pool.owner at hf; rw [if_pos hth] at hf; exact hf
 have hownz : (P.alloc o).owner ((z : Int) + 1) = o := by
  rw [ha]; unfold Pool.owner
  rw [if_pos (by rw [Pool.there_iff]; exact ⟨by omega, by show (z : Int) + 1 <= P.n; omega⟩)]
  show updI P.O z o _ = o
  rw [show ((z : Int) + 1).toNat - 1 = z by omega, updI_same]
 have hno1 : (P.alloc o).owner (N n) ≠ 0 := by rw [hown1 _ (h.own n hn h0)]; exact h.o0
 obtain ⟨nb1, nb2⟩ := h.bd n hn h0
 have hcu := countTo_upd P.O o o z P.n hff
 rw [hz0, if_neg (fun e => h.o0 e.symm), if_pos rfl] at hcu
 have hfu := freeTo_upd P.O o z P.n hff
 rw [hz0, if_pos rfl, if_neg h.o0] at hfu
 have hOz : (P.alloc o).O = updI P.O z o := by rw [ha]
 have hnz : (P.alloc o).n = P.n := by rw [ha]
 have he1 : ∀ m, m < 585 -> N m ≠ 0 -> ∀ j, j < 8 -> Go.Proofs.YtmlcgebahdcmaaaGreatDoor.ent (P.alloc o) (N m) j = Go.Proofs.YtmlcgebahdcmaaaGreatDoor.ent P (N m) j := by
  intro m hm hm0 j hj
  refine ent_congr P _ _ _ hj fun q hq => ?_
  rw [ha]
  show (if _ then _ else _) = _
  have := hno m hm hm0
  rw [if_neg (by omega)]
 have hez : ∀ j, j < 8 -> Go.Proofs.YtmlcgebahdcmaaaGreatDoor.ent (P.alloc o) ((z : Int) + 1) j = 0 := by
  intro j hj
  refine ent_zero _ _ _ hj fun q hq => ?_
  rw [ha]
  show (if _ then _ else _) = _
  rw [if_pos (by omega)]
 have hset : ∀ t' j, j < 8 -> 1 <= t' -> Go.Proofs.YtmlcgebahdcmaaaGreatDoor.ent ((P.alloc o).setE (N n) i (((z : Int) + 1) * 256 + 1)) t' j = if t' = N n /\ j = i then ((z : Int) + 1) * 256 + 1 else Go.Proofs.YtmlcgebahdcmaaaGreatDoor.ent (P.alloc o) t' j :=
  fun t' j hj ht' => ent_setE _ _ _ _ _ _ hi hj hno1 nb1 ht' (by omega) (by omega)
 refine ⟨(z : Int) + 1, hr, by omega, by omega, ?_, hmv1.trans (setE_mv _ _ o _ _ hi (hown1 _ (h.own n hn h0)) h.o0), ?_, ?_⟩
 ·have hN' : ∀ m, m ≠ 8 * n + 1 + i -> updI N (8 * n + 1 + i) ((z : Int) + 1) m = N m := fun m hm => updI_other _ _ _ _ hm
  have hNc : updI N (8 * n + 1 + i) ((z : Int) + 1) (8 * n + 1 + i) = (z : Int) + 1 := updI_same _ _ _
  refine ⟨by rw [hN' 0 (by omega)]; exact h.root, h.r0, h.o0, fun m hm hm0 j hj => ?_, fun m m' hm hm' hm0 hm0' e => ?_, fun m hm hm0 => ?_, fun m hp hm hm0 => ?_, fun p hp hF => ?_, h.lf⟩
  ·by_cases e : m = 8 * n + 1 + i
   ·subst e
    rw [hNc, hset _ j hj (by omega), if_neg (by rintro ⟨e, _⟩; exact hno n hn h0 (by omega)), hez j hj]
    by_cases hb : 8 * (8 * n + 1 + i) + 1 + j < 585
    ·rw [if_pos hb, hN' _ (by omega)]
     have : N (8 * (8 * n + 1 + i) + 1 + j) = 0 := by
      by_cases hq : N (8 * (8 * n + 1 + i) + 1 + j) = 0
      ·exact hq
      ·have := h.up _ (by omega) hb hq
       rw [show (8 * (8 * n + 1 + i) + 1 + j - 1) / 8 = 8 * n + 1 + i by omega] at this
       exact absurd hN this
     rw [this, if_pos rfl]
    ·rw [if_neg hb]
     unfold leafE
     have : F (8 * (8 * n + 1 + i) + 1 + j - 585) = 0 := by
      by_cases hq : F (8 * (8 * n + 1 + i) + 1 + j - 585) = 0
      ·exact hq
      ·have := h.leafUp _ (by omega) hq
       rw [show 73 + (8 * (8 * n + 1 + i) + 1 + j - 585) / 8 = 8 * n + 1 + i by omega] at this
       exact absurd hN this
     rw [this, if_pos rfl]
   ·rw [hN' m e] at hm0 ⊢
    have hb := h.bd m hm hm0
    rw [hset _ j hj hb.1]
    by_cases e2 : m = n /\ j = i
    ·obtain ⟨rfl, rfl⟩ := e2
     rw [if_pos ⟨rfl, rfl⟩, if_pos hc, hNc, if_neg (by omega)]
    ·have e3 : ¬ (N m = N n /\ j = i) := by
      rintro ⟨e4, e5⟩
      exact e2 ⟨h.inj m n hm hn hm0 h0 e4, e5⟩
     rw [if_neg e3, he1 m hm hm0 j hj, h.ent m hm hm0 j hj]
     by_cases hb : 8 * m + 1 + j < 585
     ·rw [if_pos hb, if_pos hb, hN' _ (by intro e; exact e2 ⟨by omega, by omega⟩)]
     ·rw [if_neg hb, if_neg hb]
  ·by_cases e1 : m = 8 * n + 1 + i
   ·by_cases e2 : m' = 8 * n + 1 + i
    ·omega
    ·rw [e1, hNc, hN' m' e2] at e
     rw [hN' m' e2] at hm0'
     exact absurd (by omega) (hno m' hm' hm0')
   ·by_cases e2 : m' = 8 * n + 1 + i
    ·rw [e2, hNc, hN' m e1] at e
     rw [hN' m e1] at hm0
     exact absurd (by omega) (hno m hm hm0)
    ·rw [hN' m e1, hN' m' e2] at e
     rw [hN' m e1] at hm0
     rw [hN' m' e2] at hm0'
     exact h.inj m m' hm hm' hm0 hm0' e
  ·rw [setE_owner]
   by_cases e : m = 8 * n + 1 + i
   ·rw [e, hNc]; exact hownz
   ·rw [hN' m e] at hm0 ⊢; exact hown1 _ (h.own m hm hm0)
  ·by_cases e : m = 8 * n + 1 + i
   ·rw [show (m - 1) / 8 = n by omega, hN' n (by omega)]; exact h0
   ·rw [hN' m e] at hm0
    have := h.up m hp hm hm0
    rw [hN' _ (by intro e2; rw [e2] at this; exact this hN)]; exact this
  ·have := h.leafUp p hp hF
   rw [hN' _ (by intro e2; rw [e2] at this; exact this hN)]; exact this
 ·unfold Pool.left; rw [setE_n, setE_O, hOz, hnz]; omega
 ·rw [setE_O, hOz]; omega
theorem Tab.told (h : Tab P r o N F Y) (p : Nat) (hp : p < 4096) (h0 : N (73 + p / 8) ≠ 0) (f : Int) (b : Bool) (hf1 : 0 <= f) (hf2 : f <= 4294967295) :
  Tab (P.setE (N (73 + p / 8)) (p % 8) (if f = 0 then 0 else f * 256 + 1 + (if b then 2 else 0))) r o N (updI F p f) (updB Y p b) /\ SegMv P (P.setE (N (73 + p / 8)) (p % 8) (if f = 0 then 0 else f * 256 + 1 + (if b then 2 else 0))) o := by
 obtain ⟨nb1, nb2⟩ := h.bd (73 + p / 8) (by omega) h0
 have hw := h.own (73 + p / 8) (by omega) h0
 have hno : P.owner (N (73 + p / 8)) ≠ 0 := by rw [hw]; exact h.o0
 have hx : 0 <= (if f = 0 then (0 : Int) else f * 256 + 1 + (if b then 2 else 0)) /\ (if f = 0 then (0 : Int) else f * 256 + 1 + (if b then 2 else 0)) <= 18446744073709551615 := by
  cases b <;> simp <;> split <;> omega
 refine ⟨⟨h.root, h.r0, h.o0, fun m hm hm0 j hj => ?_, h.inj, fun m hm hm0 => by rw [setE_owner]; exact h.own m hm hm0, h.up, fun q hq hF => ?_, fun q hq => ?_⟩, setE_mv _ _ o _ _ (by omega) hw h.o0⟩
 ·have hb := h.bd m hm hm0
  rw [ent_setE _ _ _ _ _ _ (by omega) hj hno nb1 hb.1 hx.1 hx.2]
  by_cases e : N m = N (73 + p / 8) /\ j = p % 8
  ·obtain ⟨e1, rfl⟩ := e
   obtain rfl := h.inj m (73 + p / 8) hm (by omega) hm0 h0 e1
   rw [if_pos ⟨rfl, rfl⟩, if_neg (show ¬ 8 * (73 + p / 8) + 1 + p % 8 < 585 by omega), show 8 * (73 + p / 8) + 1 + p % 8 - 585 = p by omega]
   unfold leafE updI updB
   rw [if_pos rfl, if_pos rfl]
  ·rw [if_neg e, h.ent m hm hm0 j hj]
   by_cases hb : 8 * m + 1 + j < 585
   ·rw [if_pos hb, if_pos hb]
   ·rw [if_neg hb, if_neg hb]
    have hne : 8 * m + 1 + j - 585 ≠ p := by
     intro e2
     apply e
     have : m = 73 + p / 8 := by omega
     subst this
     exact ⟨rfl, by omega⟩
    unfold leafE updI updB
    rw [if_neg hne, if_neg hne]
 ·by_cases e : q = p
  ·subst e; exact h0
  ·rw [updI_other _ _ _ _ e] at hF; exact h.leafUp q hq hF
 ·unfold updI; split
  ·exact ⟨hf1, hf2⟩
  ·exact h.lf q hq
end
end Go.Proofs.YtmlcgebahdcmaaaGreatDoor
namespace Go.Proofs.YtmlcgebahdcmaaaGreatDoor
open Go.RowKit
attribute [local irreducible] World.setCell World.alloc World.drew World.setRow Calls Code.wp row
def needT (N : Nat -> Int) (p : Nat) : Nat := if N (nd p 1) = 0 then 3 else if N (nd p 2) = 0 then 2 else if N (nd p 3) = 0 then 1 else 0
theorem needT_at (N : Nat -> Int) (p a : Nat) (ha : a < 3) (h : ∀ j, j <= a -> N (nd p j) ≠ 0) (h0 : N (nd p (a + 1)) = 0) : needT N p = 3 - a := by
 unfold needT
 obtain rfl | rfl | rfl : a = 0 \/ a = 1 \/ a = 2 := by omega
 ·rw [if_pos h0]
 ·rw [if_neg (h 1 (by omega)), if_pos h0]
 ·rw [if_neg (h 1 (by omega)), if_neg (h 2 (by omega)), if_pos h0]
theorem needT_none (N : Nat -> Int) (p : Nat) (h : ∀ j, j <= 3 -> N (nd p j) ≠ 0) : needT N p = 0 := by
 unfold needT
 rw [if_neg (h 1 (by omega)), if_neg (h 2 (by omega)), if_neg (h 3 (by omega))]
structure Down (w wx : World) (pb db ob : Nat) (P : Pool) (r o : Int) (N F : Nat -> Int) (Y : Nat -> Bool) (p l a : Nat) (P' : Pool) (N' : Nat -> Int) : Prop where
 al : a <= l
 pool : PoolAt wx pb db ob P'
 tab : Tab P' r o N' F Y
 mv : SegMv P P' o
 left : P'.left + (l - a) = P.left
 cnt : countTo P'.O o P.n = countTo P.O o P.n + (l - a)
 old : ∀ n, N n ≠ 0 -> N' n = N n
 new : ∀ n, N' n ≠ 0 ↔ N n ≠ 0 \/ ∃ j, a < j /\ j <= l /\ n = nd p j
 was : ∀ j, j <= a -> N (nd p j) ≠ 0
 gap : a < l -> N (nd p (a + 1)) = 0
 here : N' (nd p l) ≠ 0
 kept : Kept (PS pb db ob) w wx
section
variable {w wx wy : World} {pb db ob : Nat} {P P' : Pool} {r o : Int} {N N' F : Nat -> Int} {Y : Nat -> Bool} {p l a : Nat}
theorem Down.start (hP : PoolAt w pb db ob P) (hT : Tab P r o N F Y) : Down w w pb db ob P r o N F Y p 0 0 P N :=
 ⟨Nat.le_refl _, hP, hT, SegMv.refl _ _, by omega, by omega, fun _ _ => rfl, fun n => ⟨.inl, fun h => h.elim id (fun ⟨j, h1, h2, _⟩ => absurd h1 (by omega))⟩, fun j hj => by
  obtain rfl : j = 0 := by omega
  show N 0 ≠ 0; rw [hT.root]; exact hT.r0, fun h => absurd h (by omega), by show N 0 ≠ 0; rw [hT.root]; exact hT.r0, Kept.refl _ _⟩
theorem nd_inj (p i j : Nat) (hp : p < 4096) (hi : i <= 3) (hj : j <= 3) (h : nd p i = nd p j) : i = j := by
 obtain rfl | rfl | rfl | rfl : i = 0 \/ i = 1 \/ i = 2 \/ i = 3 := by omega
 all_goals obtain rfl | rfl | rfl | rfl : j = 0 \/ j = 1 \/ j = 2 \/ j = 3 := by omega
 all_goals simp only [nd] at h
 all_goals first | rfl | omega
theorem Tab.gap (hT : Tab P r o N F Y) (hp : p < 4096) (i j : Nat) (hij : i <= j) (hj : j <= 3) (h0 : N (nd p i) = 0) : N (nd p j) = 0 := by
 induction j with
 | zero => obtain rfl : i = 0 := by omega
           exact h0
 | succ j ih =>
  by_cases e : i = j + 1
  ·rw [<- e]; exact h0
  ·by_cases h : N (nd p (j + 1)) = 0
   ·exact h
   ·have := hT.up _ (nd_pos p j) (nd_lt p (j + 1) hp) h
    rw [nd_up p j hp (by omega)] at this
    exact absurd (ih (by omega) (by omega)) this
theorem Down.skip (h : Down w wx pb db ob P r o N F Y p l a P' N') (hT : Tab P r o N F Y) (hp : p < 4096) (hl : l < 3) (hc : N' (nd p (l + 1)) ≠ 0) : a = l /\ Down w wx pb db ob P r o N F Y p (l + 1) (l + 1) P' N' := by
 have hN : N (nd p (l + 1)) ≠ 0 := by
  rcases (h.new _).1 hc with h1 | ⟨j, h1, h2, h3⟩
  ·exact h1
  ·exact absurd (nd_inj p _ _ hp (by omega) (by omega) h3) (by omega)
 have hal : a = l := by
  have := h.al
  rcases Nat.lt_or_ge a l with h1 | h1
  ·exact absurd (hT.gap hp (a + 1) (l + 1) (by omega) (by omega) (h.gap h1)) hN
  ·omega
 subst hal
 refine ⟨rfl, Nat.le_refl _, h.pool, h.tab, h.mv, by have := h.left; omega, by have := h.cnt; omega, h.old, fun n => ⟨fun hn => ?_, fun hn => ?_⟩, fun j hj => ?_, fun h => absurd h (by omega), hc, h.kept⟩
 ·rcases (h.new n).1 hn with h1 | ⟨j, h1, h2, _⟩
  ·exact .inl h1
  ·omega
 ·rcases hn with h1 | ⟨j, h1, h2, _⟩
  ·exact (h.new n).2 (.inl h1)
  ·omega
 ·by_cases e : j = a + 1
  ·rw [e]; exact hN
  ·exact h.was j (by omega)
theorem Down.make (h : Down w wx pb db ob P r o N F Y p l a P' N') (hl : l < 3) (hc : N' (nd p (l + 1)) = 0) (t : Int) (ht : t ≠ 0)
  (hT' : Tab ((P'.alloc o).setE (N' (nd p l)) (p / 8 ^ (3 - l) % 8) (t * 256 + 1)) r o (updI N' (nd p (l + 1)) t) F Y) (hmv : SegMv P' ((P'.alloc o).setE (N' (nd p l)) (p / 8 ^ (3 - l) % 8) (t * 256 + 1)) o)
  (hll : ((P'.alloc o).setE (N' (nd p l)) (p / 8 ^ (3 - l) % 8) (t * 256 + 1)).left + 1 = P'.left) (hcc : countTo ((P'.alloc o).setE (N' (nd p l)) (p / 8 ^ (3 - l) % 8) (t * 256 + 1)).O o P'.n = countTo P'.O o P'.n + 1)
  (hP : PoolAt wy pb db ob ((P'.alloc o).setE (N' (nd p l)) (p / 8 ^ (3 - l) % 8) (t * 256 + 1))) (hK : Kept (PS pb db ob) wx wy) :
  Down w wy pb db ob P r o N F Y p (l + 1) a ((P'.alloc o).setE (N' (nd p l)) (p / 8 ^ (3 - l) % 8) (t * 256 + 1)) (updI N' (nd p (l + 1)) t) := by
 have hal := h.al
 have hN0 : N (nd p (l + 1)) = 0 := by
  by_cases e : N (nd p (l + 1)) = 0
  ·exact e
  ·rw [h.old _ e] at hc; exact absurd hc e
 have hleft' := h.left
 have hcnt' := h.cnt
 rw [h.mv.n] at hcc
 refine ⟨by omega, hP, hT', h.mv.trans hmv, by omega, by omega, fun n hn => ?_, fun n => ⟨fun hn => ?_, fun hn => ?_⟩, h.was, fun _ => ?_, by rw [updI_same]; exact ht, h.kept.trans hK⟩
 ·rw [updI_other _ _ _ _ (by rintro rfl; exact hn hN0)]; exact h.old n hn
 ·by_cases e : n = nd p (l + 1)
  ·exact .inr ⟨l + 1, by omega, Nat.le_refl _, e⟩
  ·rw [updI_other _ _ _ _ e] at hn
   rcases (h.new n).1 hn with h1 | ⟨j, h1, h2, h3⟩
   ·exact .inl h1
   ·exact .inr ⟨j, h1, by omega, h3⟩
 ·by_cases e : n = nd p (l + 1)
  ·rw [e, updI_same]; exact ht
  ·rw [updI_other _ _ _ _ e]
   rcases hn with h1 | ⟨j, h1, h2, h3⟩
   ·exact (h.new n).2 (.inl h1)
   ·refine (h.new n).2 (.inr ⟨j, h1, ?_, h3⟩)
    have : j ≠ l + 1 := by rintro rfl; exact e h3
    omega
 ·by_cases e : a < l
  ·exact h.gap e
  ·obtain rfl : a = l := by omega
   exact hN0
end
theorem own_ps {w w' : World} {S : Nat -> Prop} {base e size n : Nat} {v : Value} {xs : List Value} (h : w.ownsRow base e size v n xs) (hk : Kept S w w') (hS : ∀ k, S k -> k < base) : w'.ownsRow base e size v n xs := by
 rcases h.2 with ⟨h1, h2⟩ | ⟨g, cap, cur, h1, h2, h3, h4⟩
 ·exact ⟨h.1, .inl ⟨h1, h2⟩⟩
 ·exact ⟨h.1, .inr ⟨g, cap, cur, h1, h2, hk.blk (b := g) h3 (fun e => by have := hS g e; omega), h4⟩⟩
theorem Down.grown {w wx w' : World} {pb db ob : Nat} {P P' : Pool} {r o : Int} {N N' F : Nat -> Int} {Y : Nat -> Bool} {p l a : Nat} {x : Obj} {row : Option Nat} (h : Down w wx pb db ob P r o N F Y p l a P' N') (hg : (wx.alloc x).grownBy w' row) (hP : PoolAt w pb db ob P) (hr : ∀ k, row = some k -> w.heap.size <= k) :
  Down w w' pb db ob P r o N F Y p l a P' N' := by
 have hs := h.kept.size
 have hb : Below w.heap.size (wx.alloc x) w' := ⟨hg.os, hg.tape, hg.output, hg.size, fun k hk => hg.block k (by simp; omega) (fun e => by have := hr k e.symm; omega)⟩
 have hK : Kept (fun k => w.heap.size <= k) wx w' := ((Kept.refl _ wx).alloc x).trans ⟨hb.os, hb.tape, hb.output, hb.size, fun k _ hn => hb.block k (by omega)⟩
 have h1 := hP.hp.lt; have h2 := hP.hd.lt; have h3 := hP.ho.lt
 exact ⟨h.al, h.pool.kept hK (by omega) (by omega) (by omega), h.tab, h.mv, h.left, h.cnt, h.old, h.new, h.was, h.gap, h.here, ⟨hK.os.trans h.kept.os, hK.tape.trans h.kept.tape, hK.output.trans h.kept.output, Nat.le_trans h.kept.size hK.size, fun k hk hn => (hK.block k (by omega) (by omega)).trans (h.kept.block k hk hn)⟩⟩
structure Filled (w w' : World) (pb db ob : Nat) (P : Pool) (r o : Int) (N F : Nat -> Int) (Y : Nat -> Bool) (p : Nat) (f : Int) (b : Bool) (P' : Pool) (N' : Nat -> Int) : Prop where
 pool : PoolAt w' pb db ob P'
 tab : Tab P' r o N' (updI F p f) (updB Y p b)
 mv : SegMv P P' o
 left : P'.left + needT N p = P.left
 cnt : countTo P'.O o P.n = countTo P.O o P.n + needT N p
 old : ∀ n, N n ≠ 0 -> N' n = N n
 new : ∀ n, N' n ≠ 0 ↔ N n ≠ 0 \/ n = nd p 1 \/ n = nd p 2 \/ n = nd p 3
 kept : Kept (PS pb db ob) w w'
theorem fill_yes (pb db ob : Nat) (P : Pool) (r o : Int) (N F : Nat -> Int) (Y : Nat -> Bool) (p : Nat) (f most : Int) (b : Bool) (w : World) (hP : PoolAt w pb db ob P) (hT : Tab P r o N F Y) (hp : p < 4096)
  (hf1 : 1 <= f) (hf2 : f <= 4294967295) (hm : (needT N p : Int) <= most) (hl : needT N p <= P.left) :
  Calls Tryz.prog 318 #[.pointer (some ⟨pb, 0, none⟩), .int .i64 r, .int .i64 p, .int .i64 f, .bool b, .int .u64 o, .int .i64 most] w fun e w' =>
   e = .returned (.tuple #[.int .i64 (needT N p : Nat), .bool true]) /\ ∃ P' N', Filled w w' pb db ob P r o N F Y p f b P' N' := by
 have hro : P.owner r ≠ 0 := by rw [hT.root_own]; exact hT.o0
 have hrob : (P.owner r == 0) = false := by simpa using hro
 have hpi : (p : Int) < 4096 := by omega
 have HP := Lib.hid hP; have HT := Lib.hid hT; have Hm := Lib.hid hm; have Hl := Lib.hid hl
 have hpn := hP.hi
 obtain ⟨i0, hi, hz0, hz1, hz2⟩ := info_parts infoInt
 have Hi := Lib.hid hi; have Hz0 := Lib.hid hz0; have Hz1 := Lib.hid hz1; have Hz2 := Lib.hid hz2
 clear hP hT hm hl hi hz0 hz1 hz2 hro
 go_enter Tryz.func318, Tryz.ntmps318
 go_wp2_with fail
 refine (owner_any pb db ob P r _ HP.out).mono ?_
 rintro e w' ⟨rfl, rfl⟩
 go_wp2_with fail
 go_loopg [16, 17, 42] 3 (fun g mv at_ i wx => ∃ (l a : Nat) (P' : Pool) (N' : Nat -> Int) (xs : List Value), l + g = 3 /\ i = .int .i64 l /\ at_ = .int .i64 (N' (nd p l)) /\ wx.ownsRow w.heap.size 3 1 mv (l - a) xs /\ Down w wx pb db ob P r o N F Y p l a P' N')
 case atStart => exact ⟨0, 0, P, N, [], rfl, rfl, by show Value.int .i64 r = .int .i64 (N 0); rw [HT.out.root], World.ownsRow_nil _ _ _ _, Down.start HP.out HT.out⟩
 case round =>
  obtain ⟨l, a, P', N', xs, hg, rfl, rfl, hown, hD⟩ := hrel
  have Hown := Lib.hid hown; have HD := Lib.hid hD
  have hal := hD.al
  have hszr := hD.kept.size
  have Hpr := Lib.hid hD.pool
  obtain ⟨t, ht⟩ : ∃ t, N' (nd p l) = t := ⟨_, rfl⟩
  have hto : P'.owner t ≠ 0 := by rw [<- ht, hD.tab.own _ (nd_lt p l hp) hD.here]; exact hD.tab.o0
  have Hto := Lib.hid hto
  clear hown hD hto
  by_cases hl3 : l < 3
  ·have hli : (l : Int) < 3 := by omega
   rw [ht]
   have Ht := Lib.hid ht; clear ht
   go_wp2_with fail
   refine (index_any l p _ (by omega) hp).mono ?_
   rintro e w' ⟨rfl, rfl⟩
   obtain ⟨i, hi⟩ : ∃ i, p / 8 ^ (3 - l) % 8 = i := ⟨_, rfl⟩
   have hi8 : i < 8 := by omega
   rw [hi]
   have Hi' := Lib.hid hi; clear hi
   go_wp2_with fail
   refine (entry_any pb db ob P' t i _ Hpr.out Hto.out hi8).mono ?_
   rintro e w2 ⟨rfl, hb2⟩
   have hst := HD.out.tab.step p l hp hl3 (by rw [Ht.out]; have := HD.out.here; rw [Ht.out] at this; exact this)
   rw [Ht.out, Hi'.out] at hst
   have Hown2 := Lib.hid (Hown.out.kept (row := none) ⟨hb2.os, hb2.tape, hb2.output, hb2.size, fun b hb _ => hb2.block b hb⟩ (by by_cases h : u16.ownBlock = none; exact .inl h; exact .inr h))
   have HD2 : Hid (Down w w2 pb db ob P r o N F Y p l a P' N') :=
    ⟨HD.out.al, HD.out.pool.below hb2, HD.out.tab, HD.out.mv, HD.out.left, HD.out.cnt, HD.out.old, HD.out.new, HD.out.was, HD.out.gap, HD.out.here, HD.out.kept.trans (Kept.of_below hb2)⟩
   have hsz2 := hb2.size
   clear hb2 HD Hown Hpr
   by_cases hc : N' (nd p (l + 1)) = 0
   ·rw [if_pos hc] at hst
    have hpn' : P'.n = P.n := HD2.out.mv.n
    have hneed : l - a < needT N p := by
     have hN0 : N (nd p (l + 1)) = 0 := by
      by_cases e : N (nd p (l + 1)) = 0
      ·exact e
      ·rw [HD2.out.old _ e] at hc; exact absurd hc e
     by_cases e : a < l
     ·rw [needT_at N p a (by omega) HD2.out.was (HD2.out.gap e)]; omega
     ·obtain rfl : a = l := by omega
      rw [needT_at N p a hl3 HD2.out.was hN0]; omega
    have hleft' := HD2.out.left
    have hpl : 1 <= P'.left := by have := Hl.out; omega
    have hh0 := HD2.out.here
    have hcc : 8 * nd p l + 1 + p / 8 ^ (3 - l) % 8 = nd p (l + 1) := nd_step p l hp hl3
    obtain ⟨t', hr, ht1, ht2, hT', hmv, hll, hcn⟩ := HD2.out.tab.grow (nd p l) (p / 8 ^ (3 - l) % 8) (nd_lt p l hp) (Nat.mod_lt _ (by omega)) hh0 (by rw [hcc]; exact nd_lt p (l + 1) hp) (by rw [hcc]; exact hc) hpl (by omega)
    rw [hcc] at hT'
    have HT' := Lib.hid hT'; have Hmv := Lib.hid hmv; have Hll := Lib.hid hll; have Hcn := Lib.hid hcn; have Hr := Lib.hid hr; have Hc := Lib.hid hc
    have ht3 : t' <= 4096 := by omega
    have htb : (t' == 0) = false := by simp; omega
    have hor : bits .or .u64 (t' * 256) 1 = t' * 256 + 1 := or_u64 t' 1 (by omega) (by omega) (by omega) (by omega)
    have ha : bits .and .u64 0 1 = 0 := by decide
    have hlm : ((l - a : Nat) : Int) < most := by have := Hm.out; omega
    obtain ⟨A, C, hA⟩ : ∃ A C, u16 = .slice A (l - a) C := by
     rcases Hown2.out.2 with ⟨e, h0⟩ | ⟨g, cap, cur, e, _⟩
     ·exact ⟨none, 0, by rw [e, h0]⟩
     ·exact ⟨_, _, e⟩
    subst hA
    obtain ⟨c', hc'⟩ : ∃ c', l - a = c' := ⟨_, rfl⟩
    rw [hc'] at hlm hneed ⊢
    have Hown3 : Hid (w2.ownsRow w.heap.size 3 1 (.slice A c' C) c' xs) := by have := Hown2.out; rw [hc'] at this; exact this
    have Hc' := Lib.hid hc'
    have hc3 : c' <= 3 := by omega
    have hlaw : IntKind.i64.wrap ((c' : Int)) = (c' : Int) := IntWalk.i64_in _ (by omega)
    rw [hst]
    clear hst hc hT' hmv hll hcn hr hc' hcc hh0 Hown2 hpl hleft' hneed hpn' hlaw
    go_wp2_with fail
    refine (alloc_any pb db ob P' o _ HD2.out.pool).mono ?_
    rintro e w3 ⟨rfl, hP3, hK3⟩
    rw [Hr.out]
    have HP3 := Lib.hid hP3; have HK3 := Lib.hid hK3
    have Hown4 : Hid (w3.ownsRow w.heap.size 3 1 (.slice A c' C) c' xs) := own_ps Hown3.out hK3 (fun k hk => by
     rcases hk with e | e | e <;> subst e
     ·exact HP.out.hp.lt
     ·exact HP.out.hd.lt
     ·exact HP.out.ho.lt)
    clear hP3 hK3
    go_wp2_with fail
    all_goals
     refine (set_any pb db ob _ t i (t' * 256 + 1) _ HP3.out hi8 (by omega) (by omega)).mono ?_
     rintro e w4 ⟨rfl, hP4, hK4⟩
     have Hown5 := Lib.hid (own_ps Hown4.out hK4 (fun k hk => by
      rcases hk with e | e | e <;> subst e
      ·exact HP.out.hp.lt
      ·exact HP.out.hd.lt
      ·exact HP.out.ho.lt))
     have hsz4 := Nat.le_trans (Nat.le_trans hszr hsz2) (Nat.le_trans HK3.out.size hK4.size)
     have HD5 : Hid (Down w w4 pb db ob P r o N F Y p (l + 1) a ((P'.alloc o).setE (N' (nd p l)) (p / 8 ^ (3 - l) % 8) (t' * 256 + 1)) (updI N' (nd p (l + 1)) t')) :=
      HD2.out.make hl3 Hc.out t' (by omega) HT'.out Hmv.out Hll.out Hcn.out (by rw [Ht.out, Hi'.out]; exact hP4) (HK3.out.trans hK4)
     clear hP4 hK4
     go_wp2_with (at_builtin; refine wpList_append_own _ rfl _ _ 26 rfl w.heap.size 3 i0 (.int .i64 0) 1 8 Tryz.underlying26 Hi.out Hz0.out Hz1.out Hz2.out rfl (by decide) _ _ _ rfl (Hown5.out.alloc _) ⟨w4.heap.size, 0, none⟩ 1 1 [.int .i64 t'] rfl rfl (cell_one_new' _ _ _) (fun u hu => by simp at hu; subst hu; rfl) (by unfold maxLen; omega) (by omega) (by simp; omega) ?_; intro v' w6 hown6 hgrow6 _)
     have HD6 := Lib.hid (HD5.out.grown (row := (Value.slice A c' C).ownBlock) hgrow6 HP.out (fun k hk => (Hown5.out.lt k hk).1))
     go_roundg (3 - (l + 1))
     case measure => omega
     case rel => exact ⟨l + 1, a, _, _, _, by omega, by go_num, by rw [updI_same], by rw [show l + 1 - a = c' + 1 by have := Hc'.out; omega]; exact hown6, HD6.out⟩
   ·rw [if_neg hc] at hst
    obtain ⟨c1, c2⟩ := HD2.out.tab.bd _ (nd_lt p (l + 1) hp) hc
    obtain ⟨c, hcc⟩ : ∃ c, N' (nd p (l + 1)) = c := ⟨_, rfl⟩
    have hpn' : P'.n = P.n := HD2.out.mv.n
    obtain ⟨e1, hD3⟩ := HD2.out.skip HT.out hp hl3 hc
    rw [hcc] at hst c1 c2
    have c3 : c <= 4096 := by omega
    have ha : bits .and .u64 (c * 256 + 1) 1 = 1 := by rw [and1_u64 _ (by omega) (by omega)]; omega
    have hd : (c * 256 + 1) / 256 = c := by omega
    rw [hst]
    have Hcc := Lib.hid hcc; have HD3 := Lib.hid hD3
    subst e1
    clear hst hcc hc hD3 hpn'
    go_wp2_with fail
    go_roundg (3 - (a + 1))
    case measure => omega
    case rel => exact ⟨a + 1, a + 1, P', N', xs, by omega, by go_num, by rw [Hcc.out], by have := Hown2.out; rw [Nat.sub_self] at this ⊢; exact this, HD3.out⟩
  ·obtain rfl : l = 3 := by omega
   have hna : ∀ n, N' n ≠ 0 ↔ N n ≠ 0 \/ n = nd p 1 \/ n = nd p 2 \/ n = nd p 3 := fun n => by
    rw [HD.out.new n]
    constructor
    ·rintro (h | ⟨j, h1, h2, h3⟩)
     ·exact .inl h
     ·right
      obtain rfl | rfl | rfl : j = 1 \/ j = 2 \/ j = 3 := by omega
      ·exact .inl h3
      ·exact .inr (.inl h3)
      ·exact .inr (.inr h3)
    ·have key : ∀ j, 1 <= j -> j <= 3 -> n = nd p j -> N n ≠ 0 \/ ∃ j, a < j /\ j <= 3 /\ n = nd p j := fun j h1 h2 h3 => by
      by_cases e : a < j
      ·exact .inr ⟨j, e, h2, h3⟩
      ·exact .inl (by rw [h3]; exact HD.out.was j (by omega))
     rintro (h | h | h | h)
     ·exact .inl h
     ·exact key 1 (by omega) (by omega) h
     ·exact key 2 (by omega) (by omega) h
     ·exact key 3 (by omega) (by omega) h
   have hneed : 3 - a = needT N p := by
    by_cases e : a < 3
    ·rw [needT_at N p a e HD.out.was (HD.out.gap e)]
    ·rw [needT_none N p (fun j hj => HD.out.was j (by omega))]; omega
   have hnd3 : nd p 3 = 73 + p / 8 := rfl
   have hh := HD.out.here
   rw [hnd3] at hh
   obtain ⟨hT', hmv'⟩ := HD.out.tab.told p hp hh f b (by omega) hf2
   rw [if_neg (by omega)] at hT' hmv'
   rw [<- hnd3, ht] at hT' hmv'
   have HT' := Lib.hid hT'; have Hmv' := Lib.hid (HD.out.mv.trans hmv'); have Hna := Lib.hid hna; have Hneed := Lib.hid hneed
   obtain ⟨A, C, hA⟩ : ∃ A C, u16 = .slice A (3 - a) C := by
    rcases Hown.out.2 with ⟨e, h0⟩ | ⟨g, cap, cur, e, _⟩
    ·exact ⟨none, 0, by rw [e, h0]⟩
    ·exact ⟨_, _, e⟩
   subst hA
   rw [hneed, ht]
   clear hT' hmv' hna hneed hh ht
   have hor : bits .or .u64 (f * 256) 1 = f * 256 + 1 := or_u64 f 1 (by omega) (by omega) (by omega) (by omega)
   have hor2 : bits .or .u64 (f * 256 + 1) 2 = f * 256 + 3 := or2_u64 f (by omega) hf2
   have hi3 : p / 8 ^ (3 - 3) % 8 = p % 8 := by simp
   have Hi3 := Lib.hid hi3; clear hi3
   have hn3 : ¬ ((3 : Nat) : Int) < 3 := by omega
   have hwf : IntKind.u64.wrap f = f := by rw [IntKind.wrap_u64]; omega
   cases b
   ·have HT2 : Hid (Tab (P'.setE t (p % 8) (f * 256 + 1)) r o N' (updI F p f) (updB Y p false)) := by show Tab _ _ _ _ _ _; have := HT'.out; simpa using this
    have Hmv2 : Hid (SegMv P (P'.setE t (p % 8) (f * 256 + 1)) o) := by show SegMv _ _ _; have := Hmv'.out; simpa using this
    go_wp2_with fail
    refine (index_any 3 p _ (by omega) hp).mono ?_
    rintro e w' ⟨rfl, rfl⟩
    rw [Hi3.out]
    go_wp2_with fail
    refine (set_any pb db ob P' t (p % 8) (f * 256 + 1) _ Hpr.out (by omega) (by omega) (by omega)).mono ?_
    rintro e w4 ⟨rfl, hP4, hK4⟩
    have HP4 := Lib.hid hP4; have HK4 := Lib.hid (HD.out.kept.trans hK4)
    clear hP4 hK4
    go_wp2_with fail
    go_ret2
    exact ⟨rfl, _, N', HP4.out, HT2.out, Hmv2.out, by unfold Pool.left; rw [setE_n, setE_O]; have := HD.out.left; have := Hneed.out; unfold Pool.left at *; omega, by rw [setE_O]; have := HD.out.cnt; have := Hneed.out; omega, HD.out.old, Hna.out, HK4.out⟩
   ·have HT2 : Hid (Tab (P'.setE t (p % 8) (f * 256 + 3)) r o N' (updI F p f) (updB Y p true)) := by
     have := HT'.out; rw [if_pos rfl, show f * 256 + 1 + 2 = f * 256 + 3 by omega] at this; exact this
    have Hmv2 : Hid (SegMv P (P'.setE t (p % 8) (f * 256 + 3)) o) := by
     have := Hmv'.out; rw [if_pos rfl, show f * 256 + 1 + 2 = f * 256 + 3 by omega] at this; exact this
    go_wp2_with fail
    refine (index_any 3 p _ (by omega) hp).mono ?_
    rintro e w' ⟨rfl, rfl⟩
    rw [Hi3.out]
    go_wp2_with fail
    refine (set_any pb db ob P' t (p % 8) (f * 256 + 3) _ Hpr.out (by omega) (by omega) (by omega)).mono ?_
    rintro e w4 ⟨rfl, hP4, hK4⟩
    have HP4 := Lib.hid hP4; have HK4 := Lib.hid (HD.out.kept.trans hK4)
    clear hP4 hK4
    go_wp2_with fail
    go_ret2
    exact ⟨rfl, _, N', HP4.out, HT2.out, Hmv2.out, by unfold Pool.left; rw [setE_n, setE_O]; have := HD.out.left; have := Hneed.out; unfold Pool.left at *; omega, by rw [setE_O]; have := HD.out.cnt; have := Hneed.out; omega, HD.out.old, Hna.out, HK4.out⟩
end Go.Proofs.YtmlcgebahdcmaaaGreatDoor
