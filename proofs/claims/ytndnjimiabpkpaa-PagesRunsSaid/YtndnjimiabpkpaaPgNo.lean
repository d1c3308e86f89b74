/- Fill where more tables are wanted than it may make: it is refused, and all is as it was. -/
import Derived.Test.YtndnjimiabpkpaaPgUn
import Derived.Deep.LoopGhost
namespace Go.Proofs.Ytndnjimiabpkpaa
open Go.RowKit
attribute [local irreducible] World.setCell World.alloc World.drew World.setRow Calls Code.wp row

theorem madeL_step {N' : Nat → Int} {p a l : Nat} {t : Int} (hp : p < 4096) (ha : a ≤ l) (hl : l < 3) : madeL (updI N' (nd p (l + 1)) t) p a (l + 1) = madeL N' p a l ++ [t] := by
  unfold madeL
  rw [show l + 1 - a = (l - a) + 1 by omega, List.range_succ, List.map_append]
  congr 1
  · refine List.map_congr_left fun j hj => ?_
    have hj' : j < l - a := by simpa using hj
    exact updI_other _ _ _ _ (fun e => by have := nd_inj p _ _ hp (by omega) (by omega) e; omega)
  · simp [show a + 1 + (l - a) = l + 1 by omega, updI_same]
theorem madeL_nil (N' : Nat → Int) (p a : Nat) : madeL N' p a a = [] := by simp [madeL]

set_option maxRecDepth 100000 in
set_option maxHeartbeats 4000000 in
theorem fill_no (pb db ob : Nat) (P : Pool) (r o : Int) (N F : Nat → Int) (Y : Nat → Bool) (p : Nat) (f most : Int) (b : Bool) (w : World) (hP : PoolAt w pb db ob P) (hT : Tab P r o N F Y) (hp : p < 4096)
    (hf1 : 1 ≤ f) (hm0 : 0 ≤ most) (hm : most < (needT N p : Int)) (hl : needT N p ≤ P.left) :
    Calls Try.prog 37 #[.pointer (some ⟨pb, 0, none⟩), .int .i64 r, .int .i64 p, .int .i64 f, .bool b, .int .u64 o, .int .i64 most] w fun e w' =>
      e = .returned (.tuple #[.int .i64 0, .bool false]) ∧ ∃ P', PoolAt w' pb db ob P' ∧ Tab P' r o N F Y ∧ SegMv P P' o ∧ P'.left = P.left ∧ countTo P'.O o P.n = countTo P.O o P.n ∧ Kept (PS pb db ob) w w' := by
  have hro : P.owner r ≠ 0 := by rw [hT.root_own]; exact hT.o0
  have hrob : (P.owner r == 0) = false := by simpa using hro
  have hpi : (p : Int) < 4096 := by omega
  have HP := Lib.hid hP; have HT := Lib.hid hT; have Hm := Lib.hid hm; have Hl := Lib.hid hl
  have hpn := hP.hi
  obtain ⟨i0, hi, hz0, hz1, hz2⟩ := info_parts infoInt
  have Hi := Lib.hid hi; have Hz0 := Lib.hid hz0; have Hz1 := Lib.hid hz1; have Hz2 := Lib.hid hz2
  clear hP hT hm hl hi hz0 hz1 hz2 hro
  go_enter Try.func37, Try.ntmps37
  go_wp2_with fail
  refine (owner_any pb db ob P r _ HP.out).mono ?_
  rintro e w' ⟨rfl, rfl⟩
  go_wp2_with fail
  go_loopg [16, 17, 18, 19, 42] 3 (fun g mv at_ fs wh i wx => ∃ (l a : Nat) (P' : Pool) (N' : Nat → Int) (xs : List Value) (fi : Int) (wi : Nat), l + g = 3 ∧ i = .int .i64 l ∧ at_ = .int .i64 (N' (nd p l)) ∧ fs = .int .i64 fi ∧ wh = .int .i64 wi ∧ wx.ownsRow w.heap.size 3 1 mv (l - a) xs ∧ Down w wx pb db ob P r o N F Y p l a P' N' ∧ xs = (madeL N' p a l).map (Value.int .i64) ∧ wi < 8 ∧ (a < l → fi = N (nd p a) ∧ wi = p / 8 ^ (3 - a) % 8 ∧ ((l - a : Nat) : Int) ≤ most))
  case atStart => exact ⟨0, 0, P, N, [], 0, 0, rfl, rfl, by show Value.int .i64 r = .int .i64 (N 0); rw [HT.out.root], rfl, rfl, World.ownsRow_nil _ _ _ _, Down.start HP.out HT.out, by rw [madeL_nil]; rfl, by omega, fun h => absurd h (by omega)⟩
  case round =>
    obtain ⟨l, a, P', N', xs, fi, wi, hg, rfl, rfl, rfl, rfl, hown, hD, hxs, hwi, hfw⟩ := hrel
    have Hxs := Lib.hid hxs; have Hfw := Lib.hid hfw; have Hwi := Lib.hid hwi
    clear hxs hfw hwi
    have Hown := Lib.hid hown; have HD := Lib.hid hD
    have hal := hD.al
    have hszr := hD.kept.size
    have Hpr := Lib.hid hD.pool
    obtain ⟨t, ht⟩ : ∃ t, N' (nd p l) = t := ⟨_, rfl⟩
    have hto : P'.owner t ≠ 0 := by rw [← ht, hD.tab.own _ (nd_lt p l hp) hD.here]; exact hD.tab.o0
    have Hto := Lib.hid hto
    clear hown hD hto
    by_cases hl3 : l < 3
    · have hli : (l : Int) < 3 := by omega
      rw [ht]
      have Ht := Lib.hid ht; clear ht
      go_wp2_with fail
      refine (index_any l p _ (by omega) hp).mono ?_
      rintro e w' ⟨rfl, rfl⟩
      obtain ⟨i, hi⟩ : ∃ i, p / 8 ^ (3 - l) % 8 = i := ⟨_, rfl⟩
      have hi8 : i < 8 := by omega
      rw [hi]
      have Hi' := Lib.hid hi; clear hi
      go_wp2_with fail
      refine (entry_any pb db ob P' t i _ Hpr.out Hto.out hi8).mono ?_
      rintro e w2 ⟨rfl, hb2⟩
      have hst := HD.out.tab.step p l hp hl3 (by rw [Ht.out]; have := HD.out.here; rw [Ht.out] at this; exact this)
      rw [Ht.out, Hi'.out] at hst
      have Hown2 := Lib.hid (Hown.out.kept (row := none) ⟨hb2.os, hb2.tape, hb2.output, hb2.size, fun b hb _ => hb2.block b hb⟩ (by by_cases h : u16.ownBlock = none; exact .inl h; exact .inr h))
      have HD2 : Hid (Down w w2 pb db ob P r o N F Y p l a P' N') :=
        ⟨HD.out.al, HD.out.pool.below hb2, HD.out.tab, HD.out.mv, HD.out.left, HD.out.cnt, HD.out.old, HD.out.new, HD.out.was, HD.out.gap, HD.out.here, HD.out.kept.trans (Kept.of_below hb2)⟩
      have hsz2 := hb2.size
      clear hb2 HD Hown Hpr
      by_cases hc : N' (nd p (l + 1)) = 0
      · rw [if_pos hc] at hst
        have hpn' : P'.n = P.n := HD2.out.mv.n
        have hneed : l - a < needT N p := by
          have hN0 : N (nd p (l + 1)) = 0 := by
            by_cases e : N (nd p (l + 1)) = 0
            · exact e
            · rw [HD2.out.old _ e] at hc; exact absurd hc e
          by_cases e : a < l
          · rw [needT_at N p a (by omega) HD2.out.was (HD2.out.gap e)]; omega
          · obtain rfl : a = l := by omega
            rw [needT_at N p a hl3 HD2.out.was hN0]; omega
        have hleft' := HD2.out.left
        have hpl : 1 ≤ P'.left := by have := Hl.out; omega
        have hh0 := HD2.out.here
        have hcc : 8 * nd p l + 1 + p / 8 ^ (3 - l) % 8 = nd p (l + 1) := nd_step p l hp hl3
        obtain ⟨t', hr, ht1, ht2, hT', hmv, hll, hcn⟩ := HD2.out.tab.grow (nd p l) (p / 8 ^ (3 - l) % 8) (nd_lt p l hp) (Nat.mod_lt _ (by omega)) hh0 (by rw [hcc]; exact nd_lt p (l + 1) hp) (by rw [hcc]; exact hc) hpl (by omega)
        rw [hcc] at hT'
        have HT' := Lib.hid hT'; have Hmv := Lib.hid hmv; have Hll := Lib.hid hll; have Hcn := Lib.hid hcn; have Hr := Lib.hid hr; have Hc := Lib.hid hc
        have ht3 : t' ≤ 4096 := by omega
        have htb : (t' == 0) = false := by simp; omega
        have hor : bits .or .u64 (t' * 256) 1 = t' * 256 + 1 := or_u64 t' 1 (by omega) (by omega) (by omega) (by omega)
        have ha : bits .and .u64 0 1 = 0 := by decide
        obtain ⟨A, C, hA⟩ : ∃ A C, u16 = .slice A (l - a) C := by
          rcases Hown2.out.2 with ⟨e, h0⟩ | ⟨g, cap, cur, e, _⟩
          · exact ⟨none, 0, by rw [e, h0]⟩
          · exact ⟨_, _, e⟩
        subst hA
        obtain ⟨c', hc'⟩ : ∃ c', l - a = c' := ⟨_, rfl⟩
        rw [hc'] at hneed ⊢
        have Hown3 : Hid (w2.ownsRow w.heap.size 3 1 (.slice A c' C) c' xs) := by have := Hown2.out; rw [hc'] at this; exact this
        have Hc' := Lib.hid hc'
        have hc3 : c' ≤ 3 := by omega
        have hlaw : IntKind.i64.wrap ((c' : Int)) = (c' : Int) := IntWalk.i64_in _ (by omega)
        rw [hst]
        clear hst hc hT' hmv hll hcn hr hc' hcc hh0 Hown2 hpl hleft' hneed hpn' hlaw
        by_cases hlm : (c' : Int) < most
        · obtain ⟨zb, hcb, hz1, hz2⟩ : ∃ zb : Bool, ((c' : Int) == 0) = zb ∧ (zb = true → c' = 0) ∧ (zb = false → 0 < c') := ⟨_, rfl, fun h => by simpa using h, fun h => by have h2 : (c' : Int) ≠ 0 := (by simpa using h); omega⟩
          have HZ : Hid (if zb = true then c' = 0 else 0 < c') := by
            cases zb
            · exact hz2 rfl
            · exact hz1 rfl
          clear hz1 hz2
          cases zb
          all_goals
            go_wp2_with fail
            refine (alloc_any pb db ob P' o _ HD2.out.pool).mono ?_
            rintro e w3 ⟨rfl, hP3, hK3⟩
            rw [Hr.out]
            have HP3 := Lib.hid hP3; have HK3 := Lib.hid hK3
            have Hown4 : Hid (w3.ownsRow w.heap.size 3 1 (.slice A c' C) c' xs) := own_ps Hown3.out hK3 (fun k hk => by
              rcases hk with e | e | e <;> subst e
              · exact HP.out.hp.lt
              · exact HP.out.hd.lt
              · exact HP.out.ho.lt)
            clear hP3 hK3
            go_wp2_with fail
            refine (set_any pb db ob _ t i (t' * 256 + 1) _ HP3.out hi8 (by omega) (by omega)).mono ?_
            rintro e w4 ⟨rfl, hP4, hK4⟩
            have Hown5 := Lib.hid (own_ps Hown4.out hK4 (fun k hk => by
              rcases hk with e | e | e <;> subst e
              · exact HP.out.hp.lt
              · exact HP.out.hd.lt
              · exact HP.out.ho.lt))
            have hsz4 := Nat.le_trans (Nat.le_trans hszr hsz2) (Nat.le_trans HK3.out.size hK4.size)
            have HD5 : Hid (Down w w4 pb db ob P r o N F Y p (l + 1) a ((P'.alloc o).setE (N' (nd p l)) (p / 8 ^ (3 - l) % 8) (t' * 256 + 1)) (updI N' (nd p (l + 1)) t')) :=
              HD2.out.make hl3 Hc.out t' (by omega) HT'.out Hmv.out Hll.out Hcn.out (by rw [Ht.out, Hi'.out]; exact hP4) (HK3.out.trans hK4)
            clear hP4 hK4
            go_wp2_with (at_builtin; refine wpList_append_own _ rfl _ _ 22 rfl w.heap.size 3 i0 (.int .i64 0) 1 8 Try.underlying22 Hi.out Hz0.out Hz1.out Hz2.out rfl (by decide) _ _ _ rfl (Hown5.out.alloc _) ⟨w4.heap.size, 0, none⟩ 1 1 [.int .i64 t'] rfl rfl (cell_one_new' _ _ _) (fun u hu => by simp at hu; subst hu; rfl) (by unfold maxLen; omega) (by omega) (by simp; omega) ?_; intro v' w6 hown6 hgrow6 _)
            have HD6 := Lib.hid (HD5.out.grown (row := (Value.slice A c' C).ownBlock) hgrow6 HP.out (fun k hk => (Hown5.out.lt k hk).1))
            go_roundg (3 - (l + 1))
            case measure => omega
            case rel => exact ⟨l + 1, a, _, _, _, _, _, by omega, by go_num, by rw [updI_same], rfl, rfl, by rw [show l + 1 - a = c' + 1 by have := Hc'.out; omega]; exact hown6, HD6.out, by rw [madeL_step hp hal hl3, List.map_append, Hxs.out]; rfl, (by first | exact hi8 | exact Hwi.out), (by
                intro _
                have hc1 := Hc'.out
                have hz3 := HZ.out
                first
                  | (have hz4 : c' = 0 := by simpa using hz3
                     obtain rfl : a = l := by omega
                     exact ⟨by rw [← Ht.out]; exact HD2.out.old _ (HD2.out.was a (Nat.le_refl _)), Hi'.out.symm, by omega⟩)
                  | (have hz4 : 0 < c' := by simpa using hz3
                     obtain ⟨e1, e2, e3⟩ := Hfw.out (by omega)
                     exact ⟨e1, e2, by omega⟩))⟩
        · have hpl3 := HP.out.hp.lt; have hpl4 := HP.out.hd.lt; have hpl5 := HP.out.ho.lt
          have hlm' : ¬ (c' : Int) < most := hlm
          have hg3 : ∃ g, ¬ PS pb db ob g ∧ (0 < c' → A = some ⟨g, 0, none⟩) := by
            rcases Hown3.out.2 with ⟨e, h0⟩ | ⟨g, cap, cur, e, hb, _⟩
            · exact ⟨pb + db + ob + 1, by rintro (e | e | e) <;> omega, fun h => absurd h (by omega)⟩
            · refine ⟨g, by rintro (e1 | e1 | e1) <;> omega, fun _ => ?_⟩
              injection e
          obtain ⟨g, hg1, hg2⟩ := hg3
          have hun := undo_any pb db ob P' (madeL N' p a l) A C g fi wi w2 HD2.out.pool Hwi.out (by rw [madeL_len]; omega) (by rw [madeL_len, Hc'.out]; exact hg2) (by
            intro j hj
            rw [madeL_len, Hc'.out] at hj
            have h1 := Hown3.out
            obtain rfl := hg2 (by omega)
            rw [h1.cellAt j (by omega), Hxs.out]
            simp [List.getD, madeL, show j < l - a by have := Hc'.out; omega]) hg1
          rw [madeL_len, Hc'.out] at hun
          have Hun := Lib.hid hun
          clear hun hg1 hg2
          go_wp2_with fail
          refine Hun.out.mono ?_
          rintro e w3 ⟨rfl, hP3, hK3⟩
          have hun := HD2.out.undo HT.out hp (by omega)
          have hE : freeAll (if 0 < c' then P'.setE fi wi 0 else P') (madeL N' p a l) = undone P' N N' p a l := by
            unfold undone
            by_cases h0 : 0 < c'
            · obtain ⟨e1, e2, -⟩ := Hfw.out (by have := Hc'.out; omega)
              rw [if_pos h0, if_pos (by have := Hc'.out; omega), e1, e2]
            · rw [if_neg h0, if_neg (by have := Hc'.out; omega)]
          rw [hE] at hP3
          have HP3 := Lib.hid hP3; have HK3 := Lib.hid (HD2.out.kept.trans hK3); have Hq := Lib.hid hun
          clear hP3 hK3 hE hun
          go_wp2_with fail
          go_ret2
          exact ⟨rfl, _, HP3.out, Hq.out.1, Hq.out.2.1, Hq.out.2.2.1, Hq.out.2.2.2, HK3.out⟩
      · rw [if_neg hc] at hst
        obtain ⟨c1, c2⟩ := HD2.out.tab.bd _ (nd_lt p (l + 1) hp) hc
        obtain ⟨c, hcc⟩ : ∃ c, N' (nd p (l + 1)) = c := ⟨_, rfl⟩
        have hpn' : P'.n = P.n := HD2.out.mv.n
        obtain ⟨e1, hD3⟩ := HD2.out.skip HT.out hp hl3 hc
        rw [hcc] at hst c1 c2
        have c3 : c ≤ 4096 := by omega
        have ha : bits .and .u64 (c * 256 + 1) 1 = 1 := by rw [and1_u64 _ (by omega) (by omega)]; omega
        have hd : (c * 256 + 1) / 256 = c := by omega
        rw [hst]
        have Hcc := Lib.hid hcc; have HD3 := Lib.hid hD3
        subst e1
        clear hst hcc hc hD3 hpn'
        go_wp2_with fail
        go_roundg (3 - (a + 1))
        case measure => omega
        case rel => exact ⟨a + 1, a + 1, P', N', xs, fi, wi, by omega, by go_num, by rw [Hcc.out], rfl, rfl, by have := Hown2.out; rw [Nat.sub_self] at this ⊢; exact this, HD3.out, by rw [Hxs.out, madeL_nil, madeL_nil], Hwi.out, fun h => absurd h (by omega)⟩
    · obtain rfl : l = 3 := by omega
      exfalso
      have hneed : 3 - a = needT N p := by
        by_cases e : a < 3
        · rw [needT_at N p a e HD.out.was (HD.out.gap e)]
        · rw [needT_none N p (fun j hj => HD.out.was j (by omega))]; omega
      by_cases e : a < 3
      · have := (Hfw.out e).2.2; have := Hm.out; omega
      · have := Hm.out
        omega
end Go.Proofs.Ytndnjimiabpkpaa
