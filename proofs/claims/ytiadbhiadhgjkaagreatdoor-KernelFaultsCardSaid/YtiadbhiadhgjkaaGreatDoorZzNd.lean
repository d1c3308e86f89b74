/- Of the proof of this claim: a joined text. -/
import Derived.Test.YtiadbhiadhgjkaaGreatDoorZzNc
set_option maxRecDepth 100000
set_option maxHeartbeats 4000000
namespace Go.Proofs.YtiadbhiadhgjkaaGreatDoor
open Go.RowKit
attribute [local irreducible] World.setCell World.alloc World.drew World.setRow Calls Code.wp
theorem pairs_len (ps : List (Nat × Nat)) : (ps.flatMap pairV).length = ps.length * 2 := by
 induction ps with
 | nil => rfl
 | cons p r ih => rw [List.flatMap_cons, List.length_append, ih, List.length_cons]; show 2 + _ = _; omega
theorem pairs_one (ps : List (Nat × Nat)) : ∀ u ∈ ps.flatMap pairV, u.oneCell' = true := by
 intro u hu;obtain ⟨p, _, hp⟩ := List.mem_flatMap.1 hu;simp only [pairV, List.mem_cons, List.not_mem_nil, or_false] at hp;rcases hp with rfl | rfl <;> rfl
theorem clone_any (ps : List (Nat × Nat)) (v : Value) (w : World) (hn : ps.length <= 1000) (h : PairsIn w v ps) :
  Calls Tryz.prog 48 #[v] w fun e w' => ∃ a c, e = .returned (.slice a ps.length c) /\ w'.ownsRow w.heap.size 111 2 (.slice a ps.length c) ps.length (ps.flatMap pairV) /\ Below w.heap.size w w' := by
 obtain ⟨a, c, rfl, -, -⟩ := RowAt.form h
 cases a with
 | none =>
  have h0 : ps = [] := by
   cases ps with
   | nil => rfl
   | cons p r => obtain ⟨b, e, -⟩ := RowAt.cells h (by simp); cases e
  subst h0;have hq : (binOp .eql 41 (.slice none 0 c) (.slice none 0 0)).run Tryz.prog w = .ok (.bool true) w := by kernel_rfl
  clear h;go_enter Tryz.func48, Tryz.ntmps48
  go_wp2_with fail
  go_ret;exact ⟨none, 0, rfl, World.ownsRow_nil _ _ _ _, Below.refl _ _⟩
 | some ad =>
  have HL := Lib.hid h;obtain ⟨i0, hi, hz0, hz1, hz2⟩ := info_parts info_pair';have Hi := Lib.hid hi; have Hz0 := Lib.hid hz0; have Hz1 := Lib.hid hz1; have Hz2 := Lib.hid hz2;have hq : (binOp .eql 41 (.slice (some ad) ps.length c) (.slice none 0 0)).run Tryz.prog w = .ok (.bool false) w := by kernel_rfl
  have HO : Hid ((w.alloc (.cells #[] 111)).ownsRow w.heap.size 111 2 (.slice (some ⟨w.heap.size, 0, none⟩) 0 0) 0 []) := Lib.hid (World.ownsRow_lit w #[] 0 (Nat.le_refl _) (Nat.zero_le _) rfl)
  have Hnew : Hid (∀ j u, (ps.flatMap pairV)[j]? = some u -> (w.alloc (.cells #[] 111)).cell? (ad.add j) = some u) := Lib.hid (fun j u hu => by
   have hj := (List.getElem?_eq_some_iff.1 hu).1;rw [pairs_len] at hj;obtain ⟨b, hb, hbl, hcells⟩ := RowAt.cells h (by omega)
   cases hb;rw [Addr.add_lit, Nat.zero_add, ((Below.refl w.heap.size w).alloc (Nat.le_refl _) _).cell (p := ⟨b, j, none⟩) hbl];exact hcells j u hu)
  clear h hi hz0 hz1 hz2;go_enter Tryz.func48, Tryz.ntmps48
  go_wp2_with (at_builtin; refine wpList_append_own _ rfl _ _ 41 rfl w.heap.size 111 i0 _ 2 16 Tryz.underlying41 Hi.out Hz0.out Hz1.out Hz2.out rfl (by decide) _ _ _ rfl HO.out ad ps.length c (ps.flatMap pairV) rfl (pairs_len ps) Hnew.out (pairs_one ps) (by unfold maxLen; omega) (by omega) (by rw [World.size_alloc]; omega) ?_; intro v' w6 hown6 hgrow6 _)
  rw [Nat.zero_add, List.nil_append] at hown6;obtain ⟨⟨a6, c6, rfl⟩, -⟩ := own_ge hown6;have HB6 : Hid (Below w.heap.size w w6) := Lib.hid (((Below.refl w.heap.size w).alloc (Nat.le_refl _) _).grown hgrow6 (by rw [World.size_alloc]; omega) (fun k hk => (HO.out.lt k hk).1));have HO6 := Lib.hid hown6;clear hown6 hgrow6;go_wp2_with fail
  go_ret;exact ⟨a6, c6, rfl, HO6.out, HB6.out⟩
theorem insert_end (base : Nat) (ps : List (Nat × Nat)) (q : Nat × Nat) (a : Option Addr) (c pb pc : Nat) (w : World) (hn : ps.length <= 1000) (h : w.ownsRow base 111 2 (.slice a ps.length c) ps.length (ps.flatMap pairV)) (hB : Blk w pb #[.int .u32 (q.1 : Nat), .int .i64 (q.2 : Nat)] 111) (hb : base <= w.heap.size) :
  Calls Tryz.prog 50 #[.slice a ps.length c, .int .i64 (ps.length : Nat), .slice (some ⟨pb, 0, none⟩) 1 pc] w fun e w' => ∃ a' c', e = .returned (.slice a' (ps.length + 1) c') /\ w'.ownsRow base 111 2 (.slice a' (ps.length + 1) c') (ps.length + 1) (ps.flatMap pairV ++ pairV q) /\ Below base w w' /\ Kept (fun b => (Value.slice a ps.length c).ownBlock = some b) w w' := by
 have HO := Lib.hid h;have hc := own_ge h;obtain ⟨i0, hi, hz0, hz1, hz2⟩ := info_parts info_pair';have Hi := Lib.hid hi; have Hz0 := Lib.hid hz0; have Hz1 := Lib.hid hz1; have Hz2 := Lib.hid hz2
 have Hnew : Hid (∀ j u, [Value.int .u32 (q.1 : Nat), .int .i64 (q.2 : Nat)][j]? = some u -> w.cell? ((⟨pb, 0, none⟩ : Addr).add j) = some u) := Lib.hid (fun j u hu => by
  rw [Addr.add_lit, Nat.zero_add, hB.cell]; simpa using hu)
 have hcap : ps.length <= c := by
  rcases h.2 with ⟨e, e2⟩ | ⟨g, cap, cur, e, -, -, h3, -⟩
  ·rw [e2]; omega
  ·cases e; exact h3
 clear h hi hz0 hz1 hz2 hB hc;go_enter Tryz.func50, Tryz.ntmps50
 go_wp2_with (at_builtin; refine wpList_append_own _ rfl _ _ 41 rfl base 111 i0 _ 2 16 Tryz.underlying41 Hi.out Hz0.out Hz1.out Hz2.out rfl (by decide) _ _ _ rfl HO.out ⟨pb, 0, none⟩ 1 pc [.int .u32 (q.1 : Nat), .int .i64 (q.2 : Nat)] rfl rfl Hnew.out (fun u hu => by simp at hu; rcases hu with rfl | rfl <;> rfl) (by unfold maxLen; omega) (by omega) hb ?_; intro v' w6 hown6 hgrow6 _)
 all_goals
  obtain ⟨⟨a6, c6, rfl⟩, -⟩ := own_ge hown6;have HB6 : Hid (Below base w w6) := Lib.hid ((Below.refl base w).grown hgrow6 hb (fun k hk => (HO.out.lt k hk).1));have HK6 : Hid (Kept (fun b => (Value.slice a ps.length _).ownBlock = some b) w w6) := Lib.hid (kept_grown hgrow6);have HO6 : Hid (w6.ownsRow base 111 2 (.slice a6 (ps.length + 1) c6) (ps.length + 1) (ps.flatMap pairV ++ pairV q)) := Lib.hid hown6;clear hown6 hgrow6;go_wp2_with fail
  go_ret;exact ⟨a6, c6, rfl, HO6.out, HB6.out, HK6.out.mono (fun b _ e => by cases a <;> exact e)⟩
theorem own_base {w : World} {b b' e size n : Nat} {v : Value} {xs : List Value} (h : w.ownsRow b e size v n xs) (hb : b' <= b) : w.ownsRow b' e size v n xs := by
 refine ⟨h.1, h.2.imp id ?_⟩;rintro ⟨g, cap, cur, e1, e2, e3⟩;exact ⟨g, cap, cur, e1, Nat.le_trans hb e2, e3⟩
theorem below_dalloc (w : World) (o : Obj) : Below w.heap.size w (w.alloc o).drew := ((Below.refl w.heap.size w).alloc (Nat.le_refl _) o).drew
structure WSt (w : World) (h0 : Nat) (l : Lab) (lv : Value) (tb : Nat) (a : Option Addr) (k : Nat) (wx : World) : Prop where
 box : Blk wx h0 #[.int .i64 (l.d : Nat), lv] 43
 res : Blk wx (h0 + 1) #[.int .i64 0, .slice none 0 0] 43
 out : Blk wx tb #[.int .i64 (l.d : Nat), .slice a l.ps.length k] 43
 row : wx.ownsRow (h0 + 1 + 1) 111 2 (.slice a l.ps.length k) l.ps.length (l.ps.flatMap pairV)
 bel : Below h0 w wx
 ne : h0 + 1 < tb
theorem wst_a {w w3 : World} {h0 : Nat} {l : Lab} {lv : Value} {a : Option Addr} {k : Nat} (hb : Below h0 w w3) (b0 : Blk w3 h0 #[.int .i64 (l.d : Nat), lv] 43) (b1 : Blk w3 (h0 + 1) #[.int .i64 0, .slice none 0 0] 43)
  (ho : w3.ownsRow (h0 + 1 + 1) 111 2 (.slice a l.ps.length k) l.ps.length (l.ps.flatMap pairV)) : WSt w h0 l lv w3.heap.size a k (w3.alloc (.cells #[.int .i64 (l.d : Nat), .slice a l.ps.length k] 43)) :=
 ⟨b0.alloc _, b1.alloc _, Blk.new _ _ _, ho.alloc _, hb.alloc (Nat.le_trans (Nat.le_succ h0) (Nat.le_of_lt b1.lt)) _, b1.lt⟩
theorem wst_b {w w3 : World} {h0 tb : Nat} {l : Lab} {lv : Value} {a : Option Addr} {k : Nat} (hb : Below h0 w w3) (b0 : Blk w3 h0 #[.int .i64 (l.d : Nat), lv] 43) (b1 : Blk w3 (h0 + 1) #[.int .i64 0, .slice none 0 0] 43)
  (ho : w3.ownsRow (h0 + 1 + 1) 111 2 (.slice a l.ps.length k) l.ps.length (l.ps.flatMap pairV)) (bt : Blk w3 tb #[.int .i64 0, .slice none 0 0] 43) (ht : h0 + 1 < tb) :
  WSt w h0 l lv tb a k ((w3.setCell ⟨tb, 0, none⟩ (.int .i64 (l.d : Nat))).setCell ⟨tb, 1, none⟩ (.slice a l.ps.length k)) := by
 have n0 : tb ≠ h0 := by omega
 have n1 : tb ≠ h0 + 1 := by omega
 refine ⟨(b0.set_other (a := ⟨tb, 0, none⟩) n0 _).set_other (a := ⟨tb, 1, none⟩) n0 _, (b1.set_other (a := ⟨tb, 0, none⟩) n1 _).set_other (a := ⟨tb, 1, none⟩) n1 _, ((bt.set 0 _).set 1 _).cells (by simp only [List.setIfInBounds_toArray, List.set_cons_zero, List.set_cons_succ]), ?_, (hb.setCell (p := ⟨tb, 0, none⟩) (by show h0 <= tb; omega) _).setCell (p := ⟨tb, 1, none⟩) (by show h0 <= tb; omega) _, ht⟩;refine row_kept ho (((Kept.refl (· = tb) w3).setIn tb 0 (.int .i64 (l.d : Nat)) rfl).setIn tb 1 (.slice a l.ps.length k) rfl) (fun b hb e => ?_);obtain ⟨cs, hB⟩ := own_blk ho hb;rw [e] at hB;have := hB.symm.trans bt;simp at this
theorem with_end (l : Lab) (c level : Nat) (v : Value) (w : World) (h : LabIn w v l) (hn : l.ps.length <= 900) (hps : pairsR l.d 0 l.ps = true) (hlv : level ≠ l.d) (hlo : lo c l.ps = l.ps.length) :
  Calls Tryz.prog 23 #[v, .int .u32 (c : Nat), .int .i64 (level : Nat)] w fun e w' => ∃ u, e = .returned u /\ LabIn w' u ⟨l.d, l.ps ++ [(c, level)]⟩ /\ Below w.heap.size w w' := by
 obtain ⟨la, lc, rfl, hp⟩ := labIn_slice h;obtain ⟨h0, hh0⟩ : ∃ h0, w.heap.size = h0 := ⟨_, rfl⟩;obtain ⟨w1, hw1⟩ : ∃ w1, w1 = (w.alloc (.cells #[.int .i64 (l.d : Nat), .slice la l.ps.length lc] 43)).alloc (.cells #[.int .i64 0, .slice none 0 0] 43) := ⟨_, rfl⟩;have hB0 : Blk w1 h0 #[.int .i64 (l.d : Nat), .slice la l.ps.length lc] 43 := by rw [hw1, <- hh0]; exact (Blk.new _ _ _).alloc _
 have hB1 : Blk w1 (h0 + 1) #[.int .i64 0, .slice none 0 0] 43 := by
  rw [hw1, <- hh0];have := Blk.new (w.alloc (.cells #[.int .i64 (l.d : Nat), .slice la l.ps.length lc] 43)) #[.int .i64 0, .slice none 0 0] 43;rw [World.size_alloc] at this; exact this
 have hb1 : Below h0 w w1 := by rw [hw1, <- hh0]; exact ((Below.refl _ w).alloc (Nat.le_refl _) _).alloc (by simp) _
 have hs1 : w1.heap.size = h0 + 1 + 1 := by rw [hw1, World.size_alloc, World.size_alloc, hh0]
 have hp1 : PairsIn w1 (.slice la l.ps.length lc) l.ps := RowAt.below hp hb1 (by omega);have HB0 := Lib.hid hB0; have HB1 := Lib.hid hB1; have Hb1 := Lib.hid hb1; have HP1 := Lib.hid hp1; have Hh0 := Lib.hid hh0; have HPs := Lib.hid hps; have Hlo := Lib.hid hlo; have Hs1 := Lib.hid hs1;clear h hp hB0 hB1 hb1 hp1 hps hlo hs1;go_enter Tryz.func23, Tryz.ntmps23
 go_upto_region 1 with fail
 try rw [<- hw1]
 clear hw1;go_cut [7] (fun vo wx => ∃ tb a k, vo = .pointer (some ⟨tb, 0, none⟩) /\ Hid (WSt w h0 l (.slice la l.ps.length lc) tb a k wx))
 case first =>
  have x0 : w1.drew.cell? ⟨h0, 0, none⟩ = some (.int .i64 (l.d : Nat)) := (HB0.out.drew.cell 0).trans rfl;have x1 : w1.drew.cell? ⟨h0, 1, none⟩ = some (.slice la l.ps.length lc) := (HB0.out.drew.cell 1).trans rfl;have y0 : (w1.alloc (.cells #[.int .i64 0, .slice none 0 0] 43)).drew.cell? ⟨h0, 0, none⟩ = some (.int .i64 (l.d : Nat)) := (((HB0.out.alloc _).drew).cell 0).trans rfl;have y1 : (w1.alloc (.cells #[.int .i64 0, .slice none 0 0] 43)).drew.cell? ⟨h0, 1, none⟩ = some (.slice la l.ps.length lc) := (((HB0.out.alloc _).drew).cell 1).trans rfl
  have Hcl : Hid (∀ W, Below w1.heap.size w1 W -> Calls Tryz.prog 48 #[.slice la l.ps.length lc] W fun e w' => ∃ v, e = .returned v /\ ((∃ a k, v = .slice a l.ps.length k /\ Hid (w'.ownsRow (h0 + 1 + 1) 111 2 (.slice a l.ps.length k) l.ps.length (l.ps.flatMap pairV))) /\ Below W.heap.size W w')) := Lib.hid (fun W hW => by
   refine (clone_any l.ps _ W (by omega) (RowAt.below HP1.out hW (Nat.le_refl _))).mono ?_;rintro e w' ⟨a, k, h1, h2, h3⟩;exact ⟨_, h1, ⟨a, k, rfl, Lib.hid (own_base h2 (by have := hW.size; have := Hs1.out; omega))⟩, h3⟩)
  go_region_law (first
   | (refine step_call (by rfl) (ex_call (vs := #[.slice la l.ps.length lc]) (by simp [Act.eval]) (enters_fn Tryz.func48 (by kernel_rfl) rfl)) (Hcl.out _ (by first | exact (Below.refl _ w1).drew | exact below_dalloc _ _)) ?_; rintro v w3 ⟨⟨a3, k3, rfl, ho3⟩, hb3⟩; (have h30 : Blk w3 h0 #[.int .i64 (l.d : Nat), .slice la l.ps.length lc] 43 := (by first | exact (HB0.out.drew).below hb3 (HB0.out.drew).lt | exact ((HB0.out.alloc _).drew).below hb3 ((HB0.out.alloc _).drew).lt)); (have z0 : w3.cell? ⟨h0, 0, none⟩ = some (.int .i64 (l.d : Nat)) := (h30.cell 0).trans rfl); (have z2 : (w3.alloc (.cells #[.int .i64 0, .slice none 0 0] 43)).cell? ⟨h0, 0, none⟩ = some (.int .i64 (l.d : Nat)) := ((h30.alloc _).cell 0).trans rfl); (try have hT3 : Blk w3 w1.heap.size #[.int .i64 0, .slice none 0 0] 43 := ((Blk.new w1 _ _).drew).below hb3 ((Blk.new w1 _ _).drew).lt); (try have hT4 : w3.cell? ⟨w1.heap.size, 0, none⟩ = some (.int .i64 0) := (hT3.cell 0).trans rfl); (try have hT5 : w3.cell? ⟨w1.heap.size, 1, none⟩ = some (.slice none 0 0) := (hT3.cell 1).trans rfl); (try have hT6 := hT3.free); (try have hT7 : w1.heap.size < w3.heap.size := hT3.lt)))
  all_goals
   have h31 : Blk w3 (h0 + 1) #[.int .i64 0, .slice none 0 0] 43 := (by first | exact (HB1.out.drew).below hb3 (HB1.out.drew).lt | exact ((HB1.out.alloc _).drew).below hb3 ((HB1.out.alloc _).drew).lt);have hbb : Below h0 w w3 := Hb1.out.trans (by first | exact (((Below.refl _ w1).drew).trans (hb3.mono (by rw [World.size_drew]; exact Nat.le_refl _))).mono (by have := Hs1.out; omega) | exact ((below_dalloc w1 _).trans (hb3.mono (by rw [World.size_drew, World.size_alloc]; omega))).mono (by have := Hs1.out; omega));go_wp2_with fail
   go_meet;first
   | exact ⟨_, _, _, rfl, Lib.hid (wst_a hbb h30 h31 ho3.out)⟩
   | exact ⟨_, _, _, rfl, Lib.hid (wst_b hbb h30 h31 ho3.out hT3 (by have := Hs1.out; omega))⟩
 case rest =>
  rename World => w3
  obtain ⟨tb, a, k, rfl, HW⟩ := hcut;have t0 : w3.cell? ⟨tb, 0, none⟩ = some (.int .i64 (l.d : Nat)) := (HW.out.out.cell 0).trans rfl;have t1 : w3.cell? ⟨tb, 1, none⟩ = some (.slice a l.ps.length k) := (HW.out.out.cell 1).trans rfl
  have Hfi : Hid (Calls Tryz.prog 19 #[.agg #[.int .i64 (l.d : Nat), .slice a l.ps.length k], .int .u32 (c : Nat)] w3 fun e w' => e = .returned (.tuple #[.int .i64 (l.ps.length : Nat), .bool false]) /\ Below w3.heap.size w3 w') := Lib.hid (by
   have := lfind_any l l.d c _ w3 HPs.out (by omega) ⟨_, rfl, RowAt.own HW.out.row⟩;have hh : hasC c l.ps = false := by unfold hasC; rw [Hlo.out, List.getElem?_eq_none (Nat.le_refl _)]
   rw [hh, Hlo.out] at this;exact this)
  go_wp2_with fail
  refine Hfi.out.mono ?_;rintro e w4 ⟨rfl, hb4⟩;have b0 := HW.out.box.below hb4 HW.out.box.lt;have b1 := HW.out.res.below hb4 HW.out.res.lt;have bt := HW.out.out.below hb4 HW.out.out.lt;have ho4 : w4.ownsRow (h0 + 1 + 1) 111 2 (.slice a l.ps.length k) l.ps.length (l.ps.flatMap pairV) := row_kept HW.out.row (Kept.of_below hb4) (fun _ _ h => h);have HB4 : Hid (Below h0 w w4) := Lib.hid (HW.out.bel.trans (hb4.mono (by have := HW.out.box.lt; omega)));have u0 : w4.cell? ⟨h0, 0, none⟩ = some (.int .i64 (l.d : Nat)) := (b0.cell 0).trans rfl;have u1 : w4.cell? ⟨tb, 1, none⟩ = some (.slice a l.ps.length k) := (bt.cell 1).trans rfl;have Hb1' := Lib.hid b1; have Hbt := Lib.hid bt; have Ho4 := Lib.hid ho4;have hlv1 : ((level : Int) == (l.d : Int)) = false := by simp; omega
  obtain ⟨pb, hpb⟩ : ∃ pb, w4.heap.size = pb := ⟨_, rfl⟩;have Hne := Lib.hid HW.out.ne
  have Hin : Hid (Calls Tryz.prog 50 #[.slice a l.ps.length k, .int .i64 (l.ps.length : Nat), .slice (some ⟨pb, 0, none⟩) 1 1] (w4.alloc (.cells #[.int .u32 (c : Nat), .int .i64 (level : Nat)] 111)) fun e w' => ∃ a' c', e = .returned (.slice a' (l.ps.length + 1) c') /\
    Hid (w'.ownsRow (h0 + 1 + 1) 111 2 (.slice a' (l.ps.length + 1) c') (l.ps.length + 1) (l.ps.flatMap pairV ++ pairV (c, level))) /\ Hid (Below h0 w w') /\ Blk w' (h0 + 1) #[.int .i64 0, .slice none 0 0] 43 /\ Blk w' tb #[.int .i64 (l.d : Nat), .slice a l.ps.length k] 43) := Lib.hid (by
   have hB : Blk (w4.alloc (.cells #[.int .u32 (c : Nat), .int .i64 (level : Nat)] 111)) pb #[.int .u32 (c : Nat), .int .i64 (level : Nat)] 111 := by rw [<- hpb]; exact Blk.new _ _ _
   have ho5 := Ho4.out.alloc (.cells #[.int .u32 (c : Nat), .int .i64 (level : Nat)] 111);have hsz : h0 + 1 < w4.heap.size := Hb1'.out.lt;refine (insert_end (h0 + 1 + 1) l.ps (c, level) a k pb 1 _ (by omega) ho5 hB (by rw [World.size_alloc]; omega)).mono ?_;rintro e w' ⟨a', c', h1, h2, h3, h4⟩
   have hty : ∀ x cs, Blk (w4.alloc (.cells #[.int .u32 (c : Nat), .int .i64 (level : Nat)] 111)) x cs 43 -> ¬ (Value.slice a l.ps.length k).ownBlock = some x := fun x cs hx e => by
    obtain ⟨cs', hB'⟩ := own_blk ho5 e;have := hx.symm.trans hB';simp at this
   exact ⟨a', c', h1, Lib.hid h2, Lib.hid ((HB4.out.alloc (by omega) _).trans (h3.mono (by omega))), h4.blk (Hb1'.out.alloc _) (hty _ _ (Hb1'.out.alloc _)), h4.blk (Hbt.out.alloc _) (hty _ _ (Hbt.out.alloc _))⟩)
  clear t0 t1 b0 b1 bt ho4 hb4;go_wp2_with fail
  refine Hin.out.mono ?_;rintro e w6 ⟨a6, c6, rfl, ho6, hb6, r6, t6⟩;have hne1 := Hne.out;have s1 : w6.cell? ⟨tb, 1, none⟩ = some (.slice a l.ps.length k) := (t6.cell 1).trans rfl;have s2 : w6.frozen? ⟨tb, 1, none⟩ = false := t6.free 1;have nt : tb ≠ h0 + 1 := by omega
  have r7 := r6.set_other (a := ⟨tb, 1, none⟩) nt (.slice a6 (l.ps.length + 1) c6);have t7 := (t6.set 1 (.slice a6 (l.ps.length + 1) c6)).cells (d := #[.int .i64 (l.d : Nat), .slice a6 (l.ps.length + 1) c6]) (by simp only [List.setIfInBounds_toArray, List.set_cons_zero, List.set_cons_succ]);have q0 : (w6.setCell ⟨tb, 1, none⟩ (.slice a6 (l.ps.length + 1) c6)).cell? ⟨tb, 0, none⟩ = some (.int .i64 (l.d : Nat)) := (t7.cell 0).trans rfl;have q2 : (w6.setCell ⟨tb, 1, none⟩ (.slice a6 (l.ps.length + 1) c6)).cell? ⟨h0 + 1, 0, none⟩ = some (.int .i64 0) := (r7.cell 0).trans rfl;have q3 : (w6.setCell ⟨tb, 1, none⟩ (.slice a6 (l.ps.length + 1) c6)).cell? ⟨h0 + 1, 1, none⟩ = some (.slice none 0 0) := (r7.cell 1).trans rfl;have q4 := r7.free;have R7 := Lib.hid r7;have hk6 := Lib.hid (((Kept.refl (fun x => x = tb \/ x = h0 + 1) w6).setIn tb 1 (.slice a6 (l.ps.length + 1) c6) (.inl rfl)).setIn (h0 + 1) 0 (.int .i64 (l.d : Nat)) (.inr rfl) |>.setIn (h0 + 1) 1 (.slice a6 (l.ps.length + 1) c6) (.inr rfl));have T6 := Lib.hid t6; have R6 := Lib.hid r6;clear r6 t6 r7 t7;go_wp2_with fail
  have hX := ((R7.out.set 0 (.int .i64 (l.d : Nat))).set 1 (.slice a6 (l.ps.length + 1) c6)).cells (d := #[.int .i64 (l.d : Nat), .slice a6 (l.ps.length + 1) c6]) (by simp only [List.setIfInBounds_toArray, List.set_cons_zero, List.set_cons_succ]);refine bodyPost_ret (results_cell_row rfl _ _ (h0 + 1) _ _ (0, 0) _ rfl hX Tryz.underlying43 rfl (by kernel_rfl)) rfl ⟨_, rfl, ⟨_, rfl, ?_⟩, ?_⟩
  ·have e : (l.ps ++ [(c, level)]).flatMap pairV = l.ps.flatMap pairV ++ pairV (c, level) := by rw [List.flatMap_append]; rfl
   unfold PairsIn;show RowAt _ _ _ (l.ps ++ [(c, level)]).length ((l.ps ++ [(c, level)]).flatMap pairV)
   rw [e, List.length_append];refine RowAt.own (row_kept ho6.out hk6.out (fun b hb e => ?_));obtain ⟨cs, hB⟩ := own_blk ho6.out hb;rcases e with e | e
   ·rw [e] at hB; have := hB.symm.trans T6.out; simp at this
   ·rw [e] at hB; have := hB.symm.trans R6.out; simp at this
  ·rw [Hh0.out]
   exact ((hb6.out.setCell (p := ⟨tb, 1, none⟩) (by show h0 <= tb; omega) _).setCell (p := ⟨h0 + 1, 0, none⟩) (Nat.le_succ h0) _).setCell (p := ⟨h0 + 1, 1, none⟩) (Nat.le_succ h0) _
end Go.Proofs.YtiadbhiadhgjkaaGreatDoor
