/- Of the proof of this claim: a joined text. -/
import Derived.Test.YtmlcgebahdcmaaaGreatDoorZzPgD
set_option maxRecDepth 100000
set_option maxHeartbeats 4000000
namespace Go.Proofs.YtmlcgebahdcmaaaGreatDoor
open Go.RowKit
theorem cntN_iff (N M : Nat -> Int) (k : Nat) (h : ∀ j, j < k -> (N j = 0 ↔ M j = 0)) : cntN N k = cntN M k := by
 induction k with
 | zero => rfl
 | succ k ih =>
  unfold cntN
  rw [ih (fun j hj => h j (by omega))]
  by_cases c : N k = 0
  ·rw [if_pos c, if_pos ((h k (by omega)).1 c)]
  ·rw [if_neg c, if_neg (fun q => c ((h k (by omega)).2 q))]
theorem cntN_add (N : Nat -> Int) (c k : Nat) (hc : c < k) (v : Int) (hv : v ≠ 0) : cntN (updI N c v) k = cntN N k + (if N c = 0 then 1 else 0) := by
 induction k with
 | zero => omega
 | succ k ih =>
  unfold cntN
  by_cases e : c = k
  ·subst e
   rw [cntN_congr (updI N c v) N c (fun j hj => updI_other _ _ _ _ (by omega)), updI_same, if_neg hv]
   by_cases c0 : N c = 0
   ·simp [c0]
   ·simp [c0]
  ·rw [ih (by omega), updI_other _ _ _ _ (show k ≠ c by omega)]; omega
section
variable {P : Pool} {r o : Int} {N N' F : Nat -> Int} {Y : Nat -> Bool}
theorem Tab.more (h : Tab P r o N F Y) (p : Nat) (hp : p < 4096) (hn : ∀ n, N' n ≠ 0 ↔ N n ≠ 0 \/ n = nd p 1 \/ n = nd p 2 \/ n = nd p 3) : cntN N' 585 = cntN N 585 + needT N p := by
 have l1 := nd_lt p 1 hp; have l2 := nd_lt p 2 hp; have l3 := nd_lt p 3 hp
 have n12 : nd p 1 ≠ nd p 2 := by simp only [nd]; omega
 have n13 : nd p 1 ≠ nd p 3 := by simp only [nd]; omega
 have n23 : nd p 2 ≠ nd p 3 := by simp only [nd]; omega
 rw [cntN_iff N' (updI (updI (updI N (nd p 1) 1) (nd p 2) 1) (nd p 3) 1) 585 (fun j hj => ?_),
  cntN_add _ _ _ l3 1 (by omega), cntN_add _ _ _ l2 1 (by omega), cntN_add _ _ _ l1 1 (by omega), updI_other _ _ _ _ n23.symm, updI_other _ _ _ _ n13.symm, updI_other _ _ _ _ n12.symm]
 ·have g1 := h.gap hp 1 2 (by omega) (by omega); have g2 := h.gap hp 2 3 (by omega) (by omega)
  unfold needT
  by_cases c1 : N (nd p 1) = 0
  ·have c2 := g1 c1; have c3 := g2 c2
   simp [c1, c2, c3]
  ·by_cases c2 : N (nd p 2) = 0
   ·have c3 := g2 c2
    simp [c1, c2, c3]
   ·by_cases c3 : N (nd p 3) = 0
    ·simp [c1, c2, c3]
    ·simp [c1, c2, c3]
 ·have hj' := hn j
  by_cases e3 : j = nd p 3
  ·subst e3; rw [updI_same]
   have : N' (nd p 3) ≠ 0 := hj'.2 (.inr (.inr (.inr rfl)))
   simp [this]
  ·rw [updI_other _ _ _ _ e3]
   by_cases e2 : j = nd p 2
   ·subst e2; rw [updI_same]
    have : N' (nd p 2) ≠ 0 := hj'.2 (.inr (.inr (.inl rfl)))
    simp [this]
   ·rw [updI_other _ _ _ _ e2]
    by_cases e1 : j = nd p 1
    ·subst e1; rw [updI_same]
     have : N' (nd p 1) ≠ 0 := hj'.2 (.inr (.inl rfl))
     simp [this]
    ·rw [updI_other _ _ _ _ e1]
     constructor
     ·intro q
      by_cases c : N j = 0
      ·exact c
      ·exact absurd q (hj'.2 (.inl c))
     ·intro q
      by_cases c : N' j = 0
      ·exact c
      ·rcases hj'.1 c with c' | c' | c' | c'
       ·exact absurd q c'
       ·exact absurd c' e1
       ·exact absurd c' e2
       ·exact absurd c' e3
end
attribute [local irreducible] World.setCell World.alloc World.drew World.setRow Calls Code.wp row
theorem fill_few (pb db ob : Nat) (P : Pool) (r o : Int) (N F : Nat -> Int) (Y : Nat -> Bool) (p : Nat) (f most : Int) (b : Bool) (w : World) (hP : PoolAt w pb db ob P) (hT : Tab P r o N F Y) (hp : p < 4096)
  (hf1 : 1 <= f) (hm0 : 0 <= most) (hm : most < (needT N p : Int)) (hl : most <= (P.left : Int)) :
  Calls Tryz.prog 318 #[.pointer (some ⟨pb, 0, none⟩), .int .i64 r, .int .i64 p, .int .i64 f, .bool b, .int .u64 o, .int .i64 most] w fun e w' =>
   e = .returned (.tuple #[.int .i64 0, .bool false]) /\ ∃ P', PoolAt w' pb db ob P' /\ Tab P' r o N F Y /\ SegMv P P' o /\ P'.left = P.left /\ countTo P'.O o P.n = countTo P.O o P.n /\ Kept (PS pb db ob) w w' := by
 have hro : P.owner r ≠ 0 := by rw [hT.root_own]; exact hT.o0
 have hrob : (P.owner r == 0) = false := by simpa using hro
 have hpi : (p : Int) < 4096 := by omega
 have HP := Lib.hid hP; have HT := Lib.hid hT; have Hm := Lib.hid hm; have Hl := Lib.hid hl
 have hpn := hP.hi
 obtain ⟨i0, hi, hz0, hz1, hz2⟩ := info_parts infoInt
 have Hi := Lib.hid hi; have Hz0 := Lib.hid hz0; have Hz1 := Lib.hid hz1; have Hz2 := Lib.hid hz2
 clear hP hT hm hl hi hz0 hz1 hz2 hro
 go_enter Tryz.func318, Tryz.ntmps318
 go_wp2_with fail
 refine (owner_any pb db ob P r _ HP.out).mono ?_
 rintro e w' ⟨rfl, rfl⟩
 go_wp2_with fail
 go_loopg [16, 17, 18, 19, 42] 3 (fun g mv at_ fs wh i wx => ∃ (l a : Nat) (P' : Pool) (N' : Nat -> Int) (xs : List Value) (fi : Int) (wi : Nat), l + g = 3 /\ i = .int .i64 l /\ at_ = .int .i64 (N' (nd p l)) /\ fs = .int .i64 fi /\ wh = .int .i64 wi /\ wx.ownsRow w.heap.size 3 1 mv (l - a) xs /\ Down w wx pb db ob P r o N F Y p l a P' N' /\ xs = (madeL N' p a l).map (Value.int .i64) /\ wi < 8 /\ (a < l -> fi = N (nd p a) /\ wi = p / 8 ^ (3 - a) % 8 /\ ((l - a : Nat) : Int) <= most))
 case atStart => exact ⟨0, 0, P, N, [], 0, 0, rfl, rfl, by show Value.int .i64 r = .int .i64 (N 0); rw [HT.out.root], rfl, rfl, World.ownsRow_nil _ _ _ _, Down.start HP.out HT.out, by rw [madeL_nil]; rfl, by omega, fun h => absurd h (by omega)⟩
 case round =>
  obtain ⟨l, a, P', N', xs, fi, wi, hg, rfl, rfl, rfl, rfl, hown, hD, hxs, hwi, hfw⟩ := hrel
  have Hxs := Lib.hid hxs; have Hfw := Lib.hid hfw; have Hwi := Lib.hid hwi
  clear hxs hfw hwi
  have Hown := Lib.hid hown; have HD := Lib.hid hD
  have hal := hD.al
  have hszr := hD.kept.size
  have Hpr := Lib.hid hD.pool
  obtain ⟨t, ht⟩ : ∃ t, N' (nd p l) = t := ⟨_, rfl⟩
  have hto : P'.owner t ≠ 0 := by rw [<- ht, hD.tab.own _ (nd_lt p l hp) hD.here]; exact hD.tab.o0
  have Hto := Lib.hid hto
  clear hown hD hto
  by_cases hl3 : l < 3
  ·have hli : (l : Int) < 3 := by omega
   rw [ht]
   have Ht := Lib.hid ht; clear ht
   go_wp2_with fail
   refine (index_any l p _ (by omega) hp).mono ?_
   rintro e w' ⟨rfl, rfl⟩
   obtain ⟨i, hi⟩ : ∃ i, p / 8 ^ (3 - l) % 8 = i := ⟨_, rfl⟩
   have hi8 : i < 8 := by omega
   rw [hi]
   have Hi' := Lib.hid hi; clear hi
   go_wp2_with fail
   refine (entry_any pb db ob P' t i _ Hpr.out Hto.out hi8).mono ?_
   rintro e w2 ⟨rfl, hb2⟩
   have hst := HD.out.tab.step p l hp hl3 (by rw [Ht.out]; have := HD.out.here; rw [Ht.out] at this; exact this)
   rw [Ht.out, Hi'.out] at hst
   have Hown2 := Lib.hid (Hown.out.kept (row := none) ⟨hb2.os, hb2.tape, hb2.output, hb2.size, fun b hb _ => hb2.block b hb⟩ (by by_cases h : u16.ownBlock = none; exact .inl h; exact .inr h))
   have HD2 : Hid (Down w w2 pb db ob P r o N F Y p l a P' N') :=
    ⟨HD.out.al, HD.out.pool.below hb2, HD.out.tab, HD.out.mv, HD.out.left, HD.out.cnt, HD.out.old, HD.out.new, HD.out.was, HD.out.gap, HD.out.here, HD.out.kept.trans (Kept.of_below hb2)⟩
   have hsz2 := hb2.size
   clear hb2 HD Hown Hpr
   by_cases hc : N' (nd p (l + 1)) = 0
   ·rw [if_pos hc] at hst
    have hpn' : P'.n = P.n := HD2.out.mv.n
    have hneed : l - a < needT N p := by
     have hN0 : N (nd p (l + 1)) = 0 := by
      by_cases e : N (nd p (l + 1)) = 0
      ·exact e
      ·rw [HD2.out.old _ e] at hc; exact absurd hc e
     by_cases e : a < l
     ·rw [needT_at N p a (by omega) HD2.out.was (HD2.out.gap e)]; omega
     ·obtain rfl : a = l := by omega
      rw [needT_at N p a hl3 HD2.out.was hN0]; omega
    have hleft' := HD2.out.left
    have hpl : ((l - a : Nat) : Int) < most -> 1 <= P'.left := fun q => by have := Hl.out; omega
    have hh0 := HD2.out.here
    have hcc : 8 * nd p l + 1 + p / 8 ^ (3 - l) % 8 = nd p (l + 1) := nd_step p l hp hl3
    have HGr := Lib.hid (fun q => HD2.out.tab.grow (nd p l) (p / 8 ^ (3 - l) % 8) (nd_lt p l hp) (Nat.mod_lt _ (by omega)) hh0 (by rw [hcc]; exact nd_lt p (l + 1) hp) (by rw [hcc]; exact hc) (hpl q) (by omega))
    have Hc := Lib.hid hc; have HCc := Lib.hid hcc
    have ha : bits .and .u64 0 1 = 0 := by decide
    obtain ⟨A, C, hA⟩ : ∃ A C, u16 = .slice A (l - a) C := by
     rcases Hown2.out.2 with ⟨e, h0⟩ | ⟨g, cap, cur, e, _⟩
     ·exact ⟨none, 0, by rw [e, h0]⟩
     ·exact ⟨_, _, e⟩
    subst hA
    obtain ⟨c', hc'⟩ : ∃ c', l - a = c' := ⟨_, rfl⟩
    rw [hc'] at hneed ⊢
    have Hown3 : Hid (w2.ownsRow w.heap.size 3 1 (.slice A c' C) c' xs) := by have := Hown2.out; rw [hc'] at this; exact this
    have Hc' := Lib.hid hc'
    have hc3 : c' <= 3 := by omega
    have hlaw : IntKind.i64.wrap ((c' : Int)) = (c' : Int) := IntWalk.i64_in _ (by omega)
    rw [hst]
    clear hst hc hc' hcc hh0 Hown2 hpl hleft' hneed hpn' hlaw
    by_cases hlm : (c' : Int) < most
    ·obtain ⟨t', hr, ht1, ht2, hT', hmv, hll, hcn⟩ := HGr.out (by rw [Hc'.out]; exact hlm)
     rw [HCc.out] at hT'
     have HT' := Lib.hid hT'; have Hmv := Lib.hid hmv; have Hll := Lib.hid hll; have Hcn := Lib.hid hcn; have Hr := Lib.hid hr
     have ht3 : t' <= 4096 := by have := HD2.out.mv.n; omega
     have htb : (t' == 0) = false := by simp; omega
     have hor : bits .or .u64 (t' * 256) 1 = t' * 256 + 1 := or_u64 t' 1 (by omega) (by omega) (by omega) (by omega)
     clear hT' hmv hll hcn hr
     obtain ⟨zb, hcb, hz1, hz2⟩ : ∃ zb : Bool, ((c' : Int) == 0) = zb /\ (zb = true -> c' = 0) /\ (zb = false -> 0 < c') := ⟨_, rfl, fun h => by simpa using h, fun h => by have h2 : (c' : Int) ≠ 0 := (by simpa using h); omega⟩
     have HZ : Hid (if zb = true then c' = 0 else 0 < c') := by
      cases zb
      ·exact hz2 rfl
      ·exact hz1 rfl
     clear hz1 hz2
     cases zb
     all_goals
      go_wp2_with fail
      refine (alloc_any pb db ob P' o _ HD2.out.pool).mono ?_
      rintro e w3 ⟨rfl, hP3, hK3⟩
      rw [Hr.out]
      have HP3 := Lib.hid hP3; have HK3 := Lib.hid hK3
      have Hown4 : Hid (w3.ownsRow w.heap.size 3 1 (.slice A c' C) c' xs) := own_ps Hown3.out hK3 (fun k hk => by
       rcases hk with e | e | e <;> subst e
       ·exact HP.out.hp.lt
       ·exact HP.out.hd.lt
       ·exact HP.out.ho.lt)
      clear hP3 hK3
      go_wp2_with fail
      refine (set_any pb db ob _ t i (t' * 256 + 1) _ HP3.out hi8 (by omega) (by omega)).mono ?_
      rintro e w4 ⟨rfl, hP4, hK4⟩
      have Hown5 := Lib.hid (own_ps Hown4.out hK4 (fun k hk => by
       rcases hk with e | e | e <;> subst e
       ·exact HP.out.hp.lt
       ·exact HP.out.hd.lt
       ·exact HP.out.ho.lt))
      have hsz4 := Nat.le_trans (Nat.le_trans hszr hsz2) (Nat.le_trans HK3.out.size hK4.size)
      have HD5 : Hid (Down w w4 pb db ob P r o N F Y p (l + 1) a ((P'.alloc o).setE (N' (nd p l)) (p / 8 ^ (3 - l) % 8) (t' * 256 + 1)) (updI N' (nd p (l + 1)) t')) :=
       HD2.out.make hl3 Hc.out t' (by omega) HT'.out Hmv.out Hll.out Hcn.out (by rw [Ht.out, Hi'.out]; exact hP4) (HK3.out.trans hK4)
      clear hP4 hK4
      go_wp2_with (at_builtin; refine wpList_append_own _ rfl _ _ 26 rfl w.heap.size 3 i0 (.int .i64 0) 1 8 Tryz.underlying26 Hi.out Hz0.out Hz1.out Hz2.out rfl (by decide) _ _ _ rfl (Hown5.out.alloc _) ⟨w4.heap.size, 0, none⟩ 1 1 [.int .i64 t'] rfl rfl (cell_one_new' _ _ _) (fun u hu => by simp at hu; subst hu; rfl) (by unfold maxLen; omega) (by omega) (by simp; omega) ?_; intro v' w6 hown6 hgrow6 _)
      have HD6 := Lib.hid (HD5.out.grown (row := (Value.slice A c' C).ownBlock) hgrow6 HP.out (fun k hk => (Hown5.out.lt k hk).1))
      go_roundg (3 - (l + 1))
      case measure => omega
      case rel => exact ⟨l + 1, a, _, _, _, _, _, by omega, by go_num, by rw [updI_same], rfl, rfl, by rw [show l + 1 - a = c' + 1 by have := Hc'.out; omega]; exact hown6, HD6.out, by rw [madeL_step hp hal hl3, List.map_append, Hxs.out]; rfl, (by first | exact hi8 | exact Hwi.out), (by
        intro _
        have hc1 := Hc'.out
        have hz3 := HZ.out
        first
         | (have hz4 : c' = 0 := by simpa using hz3
            obtain rfl : a = l := by omega
            exact ⟨by rw [<- Ht.out]; exact HD2.out.old _ (HD2.out.was a (Nat.le_refl _)), Hi'.out.symm, by omega⟩)
         | (have hz4 : 0 < c' := by simpa using hz3
            obtain ⟨e1, e2, e3⟩ := Hfw.out (by omega)
            exact ⟨e1, e2, by omega⟩))⟩
    ·have hpl3 := HP.out.hp.lt; have hpl4 := HP.out.hd.lt; have hpl5 := HP.out.ho.lt
     have hlm' : ¬ (c' : Int) < most := hlm
     have hg3 : ∃ g, ¬ PS pb db ob g /\ (0 < c' -> A = some ⟨g, 0, none⟩) := by
      rcases Hown3.out.2 with ⟨e, h0⟩ | ⟨g, cap, cur, e, hb, _⟩
      ·exact ⟨pb + db + ob + 1, by rintro (e | e | e) <;> omega, fun h => absurd h (by omega)⟩
      ·refine ⟨g, by rintro (e1 | e1 | e1) <;> omega, fun _ => ?_⟩
       injection e
     obtain ⟨g, hg1, hg2⟩ := hg3
     have hun := undo_any pb db ob P' (madeL N' p a l) A C g fi wi w2 HD2.out.pool Hwi.out (by rw [madeL_len]; omega) (by rw [madeL_len, Hc'.out]; exact hg2) (by
      intro j hj
      rw [madeL_len, Hc'.out] at hj
      have h1 := Hown3.out
      obtain rfl := hg2 (by omega)
      rw [h1.cellAt j (by omega), Hxs.out]
      simp [List.getD, madeL, show j < l - a by have := Hc'.out; omega]) hg1
     rw [madeL_len, Hc'.out] at hun
     have Hun := Lib.hid hun
     clear hun hg1 hg2
     go_wp2_with fail
     refine Hun.out.mono ?_
     rintro e w3 ⟨rfl, hP3, hK3⟩
     have hun := HD2.out.undo HT.out hp (by omega)
     have hE : freeAll (if 0 < c' then P'.setE fi wi 0 else P') (madeL N' p a l) = undone P' N N' p a l := by
      unfold undone
      by_cases h0 : 0 < c'
      ·obtain ⟨e1, e2, -⟩ := Hfw.out (by have := Hc'.out; omega)
       rw [if_pos h0, if_pos (by have := Hc'.out; omega), e1, e2]
      ·rw [if_neg h0, if_neg (by have := Hc'.out; omega)]
     rw [hE] at hP3
     have HP3 := Lib.hid hP3; have HK3 := Lib.hid (HD2.out.kept.trans hK3); have Hq := Lib.hid hun
     clear hP3 hK3 hE hun
     go_wp2_with fail
     go_ret2
     exact ⟨rfl, _, HP3.out, Hq.out.1, Hq.out.2.1, Hq.out.2.2.1, Hq.out.2.2.2, HK3.out⟩
   ·rw [if_neg hc] at hst
    obtain ⟨c1, c2⟩ := HD2.out.tab.bd _ (nd_lt p (l + 1) hp) hc
    obtain ⟨c, hcc⟩ : ∃ c, N' (nd p (l + 1)) = c := ⟨_, rfl⟩
    have hpn' : P'.n = P.n := HD2.out.mv.n
    obtain ⟨e1, hD3⟩ := HD2.out.skip HT.out hp hl3 hc
    rw [hcc] at hst c1 c2
    have c3 : c <= 4096 := by omega
    have ha : bits .and .u64 (c * 256 + 1) 1 = 1 := by rw [and1_u64 _ (by omega) (by omega)]; omega
    have hd : (c * 256 + 1) / 256 = c := by omega
    rw [hst]
    have Hcc := Lib.hid hcc; have HD3 := Lib.hid hD3
    subst e1
    clear hst hcc hc hD3 hpn'
    go_wp2_with fail
    go_roundg (3 - (a + 1))
    case measure => omega
    case rel => exact ⟨a + 1, a + 1, P', N', xs, fi, wi, by omega, by go_num, by rw [Hcc.out], rfl, rfl, by have := Hown2.out; rw [Nat.sub_self] at this ⊢; exact this, HD3.out, by rw [Hxs.out, madeL_nil, madeL_nil], Hwi.out, fun h => absurd h (by omega)⟩
  ·obtain rfl : l = 3 := by omega
   exfalso
   have hneed : 3 - a = needT N p := by
    by_cases e : a < 3
    ·rw [needT_at N p a e HD.out.was (HD.out.gap e)]
    ·rw [needT_none N p (fun j hj => HD.out.was j (by omega))]; omega
   by_cases e : a < 3
   ·have := (Hfw.out e).2.2; have := Hm.out; omega
   ·have := Hm.out
    omega
end Go.Proofs.YtmlcgebahdcmaaaGreatDoor
