/- Of the proof of this claim: a joined text. -/
import Derived.Test.YtiadbhiadhgjkaaGreatDoorZzPgNo
import Derived.Deep.AppendLies
import Derived.Test.YtiadbhiadhgjkaaGreatDoorZzKm
set_option maxHeartbeats 600000
namespace Go.Proofs.YtiadbhiadhgjkaaGreatDoor
open Go.RowKit
attribute [local irreducible] World.setCell World.alloc World.drew World.setRow Calls Code.wp
def obP (g : Gh) (f : Int -> Option Ob) (n : Int) : Value := ((f n).map fun _ => Value.pointer (some ⟨g.bl n, 0, none⟩)).getD (.pointer none)
theorem obP_some {g : Gh} {f : Int -> Option Ob} {n : Int} {o : Ob} (h : f n = some o) : obP g f n = .pointer (some ⟨g.bl n, 0, none⟩) := by unfold obP; rw [h]; rfl
theorem obP_none {g : Gh} {f : Int -> Option Ob} {n : Int} (h : f n = none) : obP g f n = .pointer none := by unfold obP; rw [h]; rfl
theorem TabIn.lookup {w : World} {g : Gh} {f : Int -> Option Ob} (h : TabIn w g f) (n : Int) :
  (Instr.lookup 135 (.map (some g.mb)) (.int .u64 n) false).run Tryz.prog w = .ok (obP g f n) w := by
 obtain ⟨es, h1, h2⟩ := h.map;have := h1.run_lookup (P := Tryz.prog) Tryz.underlying135 Tryz.underlying37 (z := .pointer none) (fun w => by kernel_rfl) n;rw [h2 n] at this;exact this
theorem get_any (w : World) (g : Gh) (f : Int -> Option Ob) (n : Int) (h : TabIn w g f) :
  Calls Tryz.prog 15 #[.pointer (some ⟨g.tb, 0, none⟩), .int .u64 n] w fun e w' => e = .returned (obP g f n) /\ w = w' := by
 have hl := h.lookup n;have hc := h.tab.cell;clear h;go_enter Tryz.func15, Tryz.ntmps15
 go_wp2
 go_ret;exact ⟨rfl, rfl⟩
theorem Own.form {w : World} {A : Nat -> Option (Int × Nat)} {tg : Int × Nat} {e size n : Nat} {v : Value} {xs : List Value} (h : Own w A tg e size v n xs) : ∃ a c, v = .slice a n c /\ n <= c /\ c <= maxLen := by
 rcases h.row.2 with ⟨rfl, rfl⟩ | ⟨g, cap, cur, rfl, -, -, h1, h2, -⟩
 ·exact ⟨_, _, rfl, Nat.le_refl _, Nat.zero_le _⟩
 ·exact ⟨_, _, rfl, h1, h2⟩
theorem info_u64 : (Tryz.prog.info? 37).map (fun i => (i.zero, i.size, i.bytes)) = some (some (.int .u64 0), 1, 8) := by kernel_rfl
theorem add_kid (w : World) (g : Gh) (K : Km) (h : KIn w g K) (x hm : Ob) (hx : ObIn w g x) (hn : K.obj x.name = none) (hh : K.obj x.home = some hm) (hk : hm.kind = 1) (hl : hm.kids.length <= 1000000) :
  Calls Tryz.prog 36 #[.pointer (some ⟨g.tb, 0, none⟩), .pointer (some ⟨g.bl x.name, 0, none⟩)] w fun e w' => e = .returned (.bool true) /\
   ∃ b, KIn w' (g.own b (hm.name, 2)) ((K.set x).set { hm with kids := hm.kids ++ [x.name] }) /\ Ext g (g.own b (hm.name, 2)) w w' := by
 obtain ⟨hhn, hho⟩ := h.objs _ _ hh;obtain ⟨s, T, hB, hR, h3, hT⟩ := hx.ex;obtain ⟨s', T', hB', hR', h3', hT'⟩ := hho.ex;rw [hhn] at hB';have c2 : w.cell? ⟨g.bl x.name, 2, none⟩ = some (.int .u64 x.name) := (hB.cell 2).trans rfl;have c6 : w.cell? ⟨g.bl x.name, 6, none⟩ = some (.int .u64 x.home) := (hB.cell 6).trans rfl;have d3 : w.cell? ⟨g.bl x.home, 3, none⟩ = some (.int .i64 1) := (hB'.cell 3).trans (by rw [<- hk]; rfl);have hl1 : (Instr.lookup 135 (.map (some g.mb)) (.int .u64 x.name) false).run Tryz.prog w = .ok (.pointer none) w := by rw [h.tab.lookup, obP_none hn]
 have hl2 : (Instr.lookup 135 (.map (some g.mb)) (.int .u64 x.home) false).run Tryz.prog w = .ok (.pointer (some ⟨g.bl x.home, 0, none⟩)) w := by rw [h.tab.lookup, obP_some hh]
 have hl1d : (Instr.lookup 135 (.map (some g.mb)) (.int .u64 x.name) false).run Tryz.prog w.drew = .ok (.pointer none) w.drew := by rw [h.drew.tab.lookup, obP_none hn]
 have hl2d : (Instr.lookup 135 (.map (some g.mb)) (.int .u64 x.home) false).run Tryz.prog w.drew = .ok (.pointer (some ⟨g.bl x.home, 0, none⟩)) w.drew := by rw [h.drew.tab.lookup, obP_some hh]
 have hl2e : (Instr.lookup 135 (.map (some g.mb)) (.int .u64 x.home) false).run Tryz.prog w.drew.drew = .ok (.pointer (some ⟨g.bl x.home, 0, none⟩)) w.drew.drew := by rw [h.drew.drew.tab.lookup, obP_some hh]
 have ht := h.tab.tab.cell;have H := Lib.hid h; have HX := Lib.hid hx; have HN := Lib.hid hn; have HH := Lib.hid hh;obtain ⟨es, hes1, hes2⟩ := h.tab.map;obtain ⟨w4, hup, hm4, hk4⟩ := (hes1.drew.drew.drew).run_update (P := Tryz.prog) Tryz.underlying135 Tryz.underlying37 x.name (.pointer (some ⟨g.bl x.name, 0, none⟩));have hne : x.home ≠ x.name := fun e => by rw [e, hn] at hh; cases hh
 have HK4 := Lib.hid ((h.drew.drew.drew).enter hk4 (hx.kept (g' := g) (S := fun _ => False) ((Kept.refl _ _).drew.drew.drew) (Mild.none w) (fun b q => q.elim) (fun _ _ h => h) (Alike1.refl _ _) ⟨rfl, rfl, rfl⟩) hes2 hm4);have Hkept4 := Lib.hid ((Kept.refl (· = g.mb) w).drew.drew.drew.trans hk4);have hh4 : (K.set x).obj x.home = some hm := by show (if x.home = x.name then some x else K.obj x.home) = _; rw [if_neg hne]; exact hh
 have hpos := hx.pos;have hne0 : (x.name == 0) = false := by simp; omega
 go_enter Tryz.func36, Tryz.ntmps36
 go_wp2_with fail
 go_region
 go_wp2_with fail
 clear hl1 hl1d;go_region
 clear hl2 hl2d hl2e;go_wp2_with fail
 clear hes1 hes2 hm4 hk4 h hB' hR' h3' hT' hB hR h3 hT hx;go_region
 clear hup ht c2 c6 d3;obtain ⟨hhn4, hho4⟩ := HK4.out.objs _ _ hh4;obtain ⟨s, T, hB, hR, h3, hT⟩ := hho4.ex;have HB0 := Lib.hid hB;rw [hhn4] at hB;obtain ⟨sq, sk, sf, sm, sl, sc, so, si, sr⟩ := s;obtain ⟨ka, kc, rfl, hk1, hk2⟩ := hR.kids.form;have d15 : w4.cell? ⟨g.bl x.home, 15, none⟩ = some (.slice ka hm.kids.length kc) := (hB.cell 15).trans rfl;have f15 : w4.frozen? ⟨g.bl x.home, 15, none⟩ = false := hB.free 15;have hx4 := (HK4.out.objs x.name x (by show (if x.name = x.name then some x else K.obj x.name) = _; rw [if_pos rfl])).2;obtain ⟨sx, Tx, hBx, -⟩ := hx4.ex;have c2 : w4.cell? ⟨g.bl x.name, 2, none⟩ = some (.int .u64 x.name) := (hBx.cell 2).trans rfl;obtain ⟨i0, hi0, hz0, hz1, hz2⟩ := info_parts info_u64;have Hi0 := Lib.hid hi0; have Hz0 := Lib.hid hz0; have Hz1 := Lib.hid hz1; have Hz2 := Lib.hid hz2;have Hown := Lib.hid hR.kids;have HR := Lib.hid hR; have H3 := Lib.hid h3; have HT := Lib.hid hT;have HB := Lib.hid hB;have Hrow : Hid (World.ownsRow (w4.alloc (.cells #[.int .u64 x.name] 37)).drew 0 37 1 (.slice ka hm.kids.length kc) hm.kids.length (hm.kids.map (.int .u64))) := row_kept (T := fun _ => False) Hown.out.row ((Kept.refl _ _).alloc _).drew (fun _ _ q => q)
 have Hblk : Hid (∀ w5, World.grownBy (w4.alloc (.cells #[.int .u64 x.name] 37)).drew w5 (Value.slice ka hm.kids.length kc).ownBlock -> Blk w5 (g.bl x.home) (obC hm ⟨sq, .slice ka hm.kids.length kc, sf, sm, sl, sc, so, si, sr⟩ (g.mt x.home) T) 68) := fun w5 hg => (kept_grown hg).blk ((hB.alloc _).drew) (fun e => by
  have h1 := Hown.out.tag _ e;have h2 := (HK4.out.objs _ _ hh4).2.tag;rw [hhn4] at h1 h2; rw [h1] at h2; cases h2)
 have H1c : Hid (∀ u ∈ [Value.int .u64 x.name], u.oneCell' = true) := fun u hu => by simp at hu; subst hu; rfl
 have e15 : (w4.alloc (.cells #[.int .u64 x.name] 37)).cell? ⟨g.bl x.home, 15, none⟩ = some (.slice ka hm.kids.length kc) := ((hB.alloc _).cell 15).trans rfl;have Hlt1 := Lib.hid hB.lt;clear hR h3 hT hB hBx hx4 hi0 hz0 hz1 hz2 hho4;go_wp2_with fail
 go_region_law (first
  | (refine step_append_lies _ (by rfl) (.tmp 74) (.tmp 79) 46 (by rfl) 0 37 i0 _ 1 8 Tryz.underlying46 Hi0.out Hz0.out Hz1.out Hz2.out rfl (by decide) (.slice ka hm.kids.length kc) hm.kids.length (hm.kids.map (.int .u64)) (by simp [Act.eval]) Hrow.out ⟨w4.heap.size, 0, none⟩ 1 1 [.int .u64 x.name] (by simp [Act.eval]) rfl (World.news_of_block (Blk.new w4 #[.int .u64 x.name] 37).drew) H1c.out (by omega) (by unfold maxLen; omega) (by omega) (by simp) _ rfl ?_; intro g5 cap w5 hown5 hgrow5 hg5 hlt5; have hB5 := Hblk.out w5 hgrow5; have j15 : w5.cell? ⟨g.bl x.home, 15, none⟩ = some (.slice ka hm.kids.length kc) := (hB5.cell 15).trans rfl; have k15 : w5.frozen? ⟨g.bl x.home, 15, none⟩ = false := hB5.free 15))
 all_goals
  clear j15 k15;go_wp2_with fail
  go_ret
  have hg6 : (Value.slice ka hm.kids.length kc).ownBlock = some g5 \/ w4.heap.size <= g5 := by
   rcases hg5 with e | e
   ·exact .inl e
   ·right; rw [e]; simp
  obtain ⟨f1, f2⟩ := HK4.out.putKids (o := hm) (by rw [hhn4]; exact hh4) HB0.out HR.out H3.out HT.out (((Kept.refl _ w4).alloc _).drew.trans (kept_grown hgrow5)) hown5 rfl hg6 hlt5;have e0 : g.bl x.home = g.bl hm.name := by rw [hhn4]
  rw [e0];exact ⟨rfl, _, f1, Ext.trans (Ext.wrote (Alike0.refl g) Hkept4.out (fun b q _ => by rw [q]; exact ⟨_, H.out.tags.mb⟩) (fun _ _ e => e) (fun _ _ => ⟨rfl, rfl⟩)) f2⟩
end Go.Proofs.YtiadbhiadhgjkaaGreatDoor
namespace Go.Proofs.YtiadbhiadhgjkaaGreatDoor
open Go.RowKit
structure VW (o o' : Ob) : Prop where
 name : o'.name = o.name
 kind : o'.kind = o.kind
 lab : o'.lab = o.lab
 maps : o'.maps = o.maps
 pages : o'.pages = o.pages
 space : o'.th.space = o.th.space
theorem VW.refl (o : Ob) : VW o o := ⟨rfl, rfl, rfl, rfl, rfl, rfl⟩
def OptVW : Option Ob -> Option Ob -> Prop
 | none, none => True
 | some a, some b => VW a b
 | _, _ => False
theorem OptVW.refl (x : Option Ob) : OptVW x x := by cases x with
 | none => trivial
 | some a => exact VW.refl a
theorem where_congr {K K' : Km} {o o' : Ob} (hK : ∀ n, OptVW (K.obj n) (K'.obj n)) (ho : VW o o') (va : Int) : K'.whereTo o' va = K.whereTo o va := by
 unfold Km.whereTo;rw [ho.space, ho.lab];have h1 := hK o.th.space
 cases e1 : K.obj o.th.space with
 | none => rw [e1] at h1; cases e2 : K'.obj o.th.space with
  | none => rfl
  | some b => rw [e2] at h1; cases h1
 | some a => rw [e1] at h1; cases e2 : K'.obj o.th.space with
  | none => rw [e2] at h1; cases h1
  | some b =>
   rw [e2] at h1;have h1' : VW a b := h1;simp only;rw [h1'.kind, h1'.lab, h1'.maps];split
   ·cases e3 : findMap a.maps (va / 64) with
    | none => rfl
    | some m =>
     simp only;have h2 := hK m.seg
     cases e4 : K.obj m.seg with
     | none => rw [e4] at h2; cases e5 : K'.obj m.seg with
      | none => rfl
      | some c => rw [e5] at h2; cases h2
     | some c => rw [e4] at h2; cases e5 : K'.obj m.seg with
      | none => rw [e5] at h2; cases h2
      | some d =>
       rw [e5] at h2;have h2' : VW c d := h2;simp only;rw [h2'.kind, h2'.lab, h2'.pages, h2'.name]
   ·rfl
theorem where_mono {K K' : Km} {o : Ob} (hK : ∀ n a, K.obj n = some a -> ∃ b, K'.obj n = some b /\ VW a b) {va : Int} {r : Int × Int × Bool} (h : K.whereTo o va = some r) : K'.whereTo o va = some r := by
 unfold Km.whereTo at h ⊢
 cases e1 : K.obj o.th.space with
 | none => rw [e1] at h; cases h
 | some a =>
  obtain ⟨b, e2, hv⟩ := hK _ _ e1;rw [e1] at h; rw [e2];simp only at h ⊢;rw [hv.kind, hv.lab, hv.maps];split at h
  ·rw [if_pos (by assumption)]
   cases e3 : findMap a.maps (va / 64) with
   | none => rw [e3] at h; cases h
   | some m =>
    rw [e3] at h;simp only at h ⊢
    cases e4 : K.obj m.seg with
    | none => rw [e4] at h; cases h
    | some c =>
     obtain ⟨d, e5, hv2⟩ := hK _ _ e4;rw [e4] at h; rw [e5];simp only at h ⊢;rw [hv2.kind, hv2.lab, hv2.pages, hv2.name];exact h
  ·cases h
theorem where_page {K : Km} {o : Ob} (p off : Int) (h0 : 0 <= off) (h1 : off < 64) : K.whereTo o (p * 64 + off) = (K.whereTo o (p * 64)).map fun r => (r.1, r.2.1 + off, r.2.2) := by
 unfold Km.whereTo;have e1 : (p * 64 + off) / 64 = p := by omega
 have e2 : (p * 64) / 64 = p := by omega
 have e3 : (p * 64 + off) % 64 = off := by omega
 have e4 : (p * 64) % 64 = 0 := by omega
 rw [e1, e2, e3, e4]
 cases K.obj o.th.space with
 | none => rfl
 | some a =>
  simp only;split
  ·cases findMap a.maps p with
   | none => rfl
   | some m =>
    simp only
    cases K.obj m.seg with
    | none => rfl
    | some c =>
     simp only;split
     ·simp
     ·rfl
  ·rfl
theorem where_some {K : Km} {o : Ob} {va : Int} {s at_ : Int} {may : Bool} (hn : ∀ n o, K.obj n = some o -> o.name = n) (h : K.whereTo o va = some (s, at_, may)) : ∃ c, K.obj s = some c /\ c.kind = 2 /\ at_ / 64 < (c.pages : Int) /\ at_ % 64 = va % 64 := by
 unfold Km.whereTo at h
 cases e1 : K.obj o.th.space with
 | none => rw [e1] at h; cases h
 | some a =>
  rw [e1] at h;simp only at h;split at h
  ·cases e3 : findMap a.maps (va / 64) with
   | none => rw [e3] at h; cases h
   | some m =>
    rw [e3] at h;simp only at h
    cases e4 : K.obj m.seg with
    | none => rw [e4] at h; cases h
    | some c =>
     rw [e4] at h;simp only at h;split at h
     ·rename_i hc
      simp only [Bool.and_eq_true, decide_eq_true_eq] at hc;simp only [Option.some.injEq, Prod.mk.injEq] at h;obtain ⟨h1, h2, h3⟩ := h;have := hn _ _ e4;refine ⟨c, by rw [<- h1, this]; exact e4, hc.1, by omega, by omega⟩
     ·cases h
  ·cases h
structure ContOk (o : Ob) : Prop where
 names : o.names.ok
 next : 1 <= o.names.next
 used : 0 <= o.purse.used
 given : 0 <= o.purse.given
 sum : o.purse.used + o.purse.given <= o.purse.lim
 lim : o.purse.lim <= 1099511627776
theorem ContOk.sm {o : Ob} (h : ContOk o) : o.purse.sm := by
 have := h.used; have := h.given; have := h.sum; have := h.lim;exact ⟨⟨by omega, by omega⟩, ⟨by omega, by omega⟩, by omega, by omega⟩
def Leads (g : Gh) (K : Km) (o : Ob) (p f : Int) (y : Bool) : Prop := ∃ s at_ may, K.whereTo o (p * 64) = some (s, at_, may) /\ (g.fr s).getD (at_ / 64).toNat 0 = f /\ (y = true -> may = true)
structure SegOk (g : Gh) (o : Ob) : Prop where
 inn : SegIn g.P o.name (g.fr o.name)
 len : (g.fr o.name).length = o.pages
 p16 : o.pages <= 16
 data : ∀ j, j < o.pages * 64 -> o.data j = segD g.P (g.fr o.name) j
def ThrOk (g : Gh) (K : Km) (o : Ob) : Prop :=
 (g.root o.name = 0 /\ g.tabs o.name = 0) \/
 (Tab g.P (g.root o.name) o.name (g.N o.name) (g.F o.name) (g.Y o.name) /\ g.tabs o.name = (cntN (g.N o.name) 585 : Nat) /\ g.tabs o.name <= 8 /\ ∀ p, p < 4096 -> g.F o.name p ≠ 0 -> Leads g K o p (g.F o.name p) (g.Y o.name p))
def TlbOk (g : Gh) (K : Km) (i : Nat) : Prop := ∀ k, k < 4 -> (g.tlb i).f k ≠ 0 -> ∃ o, K.obj (g.last i) = some o /\ (0 <= (g.tlb i).p k /\ (g.tlb i).p k < 4096) /\ Leads g K o ((g.tlb i).p k) ((g.tlb i).f k) ((g.tlb i).w k)
def slack (g : Gh) : Int := (g.ths.map fun n => 8 - g.tabs n).sum
structure Inv (g : Gh) (K : Km) : Prop where
 own : ∀ b n i, g.A b = some (n, i) -> n = 0 \/ ∃ o, K.obj n = some o
 name : ∀ n o, K.obj n = some o -> o.name = n
 cont : ∀ n o, K.obj n = some o -> o.kind = 1 -> ContOk o
 seg : ∀ n o, K.obj n = some o -> o.kind = 2 -> SegOk g o
 noseg : ∀ n o, K.obj n = some o -> o.kind ≠ 2 -> g.fr n = []
 thr : ∀ n o, K.obj n = some o -> o.kind = 3 -> ThrOk g K o
 tlb : ∀ i, i < K.nc -> g.flush i = false -> TlbOk g K i
 tn : ∀ i, i < K.nc -> 0 <= (g.tlb i).n /\ (g.tlb i).n < 4
 ths : g.ths.Nodup /\ ∀ n, n ∈ g.ths ↔ ∃ o, K.obj n = some o /\ o.kind = 3
 room : 0 <= K.room /\ (g.P.left : Int) = K.room + slack g
 cnt0 : ∀ n, n ≠ 0 -> K.obj n = none -> countTo g.P.O n g.P.n = 0
section
variable {g : Gh} {K : Km} {o o' : Ob}
theorem Leads.mono {K' : Km} {g' : Gh} {p f : Int} {y : Bool} (h : Leads g K o p f y) (hK : ∀ n a, K.obj n = some a -> ∃ b, K'.obj n = some b /\ VW a b) (hv : VW o o') (hf : ∀ n a, K.obj n = some a -> g'.fr n = g.fr n) (hn : ∀ n o, K.obj n = some o -> o.name = n) : Leads g' K' o' p f y := by
 obtain ⟨s, at_, may, h1, h2, h3⟩ := h;obtain ⟨c, hc, -⟩ := where_some hn h1;refine ⟨s, at_, may, ?_, by rw [hf _ _ hc]; exact h2, h3⟩;have := where_mono hK h1;rw [<- where_congr (fun n => OptVW.refl (K'.obj n)) hv] at this;exact this
theorem slack_nonneg (h : Inv g K) (n : Int) (hn : n ∈ g.ths) : 8 - g.tabs n <= slack g := by
 have hall : ∀ m, m ∈ g.ths -> 0 <= 8 - g.tabs m := fun m hm => by
  obtain ⟨o, h1, h2⟩ := (h.ths.2 m).1 hm;have hnm := h.name _ _ h1;rcases h.thr m o h1 h2 with e | e
  ·have := e.2; rw [hnm] at this; omega
  ·have := e.2.2.1; rw [hnm] at this; omega
 unfold slack;revert hall hn
 generalize g.ths = l;intro hn hall;induction l with
 | nil => cases hn
 | cons a l ih =>
  have hs : ∀ l : List Int, (∀ m, m ∈ l -> 0 <= 8 - g.tabs m) -> 0 <= (l.map fun n => 8 - g.tabs n).sum := fun l hl => by
   induction l with
   | nil => simp
   | cons b l ihl =>
    rw [List.map_cons, List.sum_cons];have := hl b (by simp);have := ihl (fun m hm => hl m (by simp [hm]));omega
  rw [List.map_cons, List.sum_cons];rcases List.mem_cons.1 hn with e | e
  ·subst e
   have := hs l (fun m hm => hall m (by simp [hm]));omega
  ·have := ih e (fun m hm => hall m (by simp [hm]))
   have := hall a (by simp);omega
theorem slack_pos (h : Inv g K) : 0 <= slack g := by
 rcases hl : g.ths with _ | ⟨n, l⟩
 ·unfold slack; rw [hl]; simp
 ·have h1 := slack_nonneg h n (by rw [hl]; simp)
  obtain ⟨o, e1, e2⟩ := (h.ths.2 n).1 (by rw [hl]; simp);have hnm := h.name _ _ e1;rcases h.thr n o e1 e2 with e | e
  ·have := e.2; rw [hnm] at this; omega
  ·have := e.2.2.1; rw [hnm] at this; omega
theorem Inv.set (h : Inv g K) (ho : K.obj o.name = some o) (hv : VW o o') (hd : o'.data = o.data) (hc : o'.kind = 1 -> ContOk o') {A' : Nat -> Option (Int × Nat)} (hA : ∀ b n i, A' b = some (n, i) -> g.A b = some (n, i) \/ n = o.name) : Inv { g with A := A' } (K.set o') := by
 have hset : ∀ n, (K.set o').obj n = if n = o.name then some o' else K.obj n := fun n => by show (if n = o'.name then some o' else K.obj n) = _; rw [hv.name]
 have hK : ∀ n a, K.obj n = some a -> ∃ b, (K.set o').obj n = some b /\ VW a b := fun n a e => by
  rw [hset];by_cases e1 : n = o.name
  ·rw [if_pos e1]; rw [e1, ho] at e; cases e; exact ⟨_, rfl, hv⟩
  ·rw [if_neg e1]; exact ⟨a, e, VW.refl a⟩
 have hback : ∀ n a, (K.set o').obj n = some a -> ∃ b, K.obj n = some b /\ VW b a /\ a.data = b.data /\ (a.kind = 1 -> ContOk a) := fun n a e => by
  rw [hset] at e;by_cases e1 : n = o.name
  ·rw [if_pos e1] at e; cases e; exact ⟨o, by rw [e1]; exact ho, hv, hd, hc⟩
  ·rw [if_neg e1] at e; exact ⟨a, e, VW.refl a, rfl, h.cont n a e⟩
 refine ⟨fun b n i e => ?_, fun n a e => ?_, fun n a e ek => ?_, fun n a e ek => ?_, fun n a e ek => ?_, fun n a e ek => ?_, fun i hi hf k hk hk2 => ?_, h.tn, ⟨h.ths.1, fun n => ?_⟩, h.room, fun n h0 e => ?_⟩
 ·rcases hA b n i e with e1 | e1
  ·rcases h.own b n i e1 with e2 | ⟨a, e2⟩
   ·exact .inl e2
   ·obtain ⟨c, hc, -⟩ := hK n a e2; exact .inr ⟨c, hc⟩
  ·refine .inr ⟨o', ?_⟩; rw [hset, if_pos e1]
 ·obtain ⟨b, e1, e2, -⟩ := hback n a e
  rw [e2.name]; exact h.name n b e1
 ·obtain ⟨b, -, -, -, e4⟩ := hback n a e; exact e4 ek
 ·obtain ⟨b, e1, e2, e3, -⟩ := hback n a e
  have := h.seg n b e1 (by rw [<- e2.kind]; exact ek);exact ⟨by rw [e2.name]; exact this.inn, by rw [e2.name, e2.pages]; exact this.len, by rw [e2.pages]; exact this.p16, fun j hj => by rw [e2.pages] at hj; rw [e2.name, e3]; exact this.data j hj⟩
 ·obtain ⟨b, e1, e2, -⟩ := hback n a e
  exact h.noseg n b e1 (by rw [<- e2.kind]; exact ek)
 ·obtain ⟨b, e1, e2, -⟩ := hback n a e
  have := h.thr n b e1 (by rw [<- e2.kind]; exact ek);unfold ThrOk at this ⊢;rw [e2.name];rcases this with t | ⟨t1, t2, t3, t4⟩
  ·exact .inl t
  ·exact .inr ⟨t1, t2, t3, fun p hp hF => (t4 p hp hF).mono hK e2 (fun _ _ _ => rfl) h.name⟩
 ·obtain ⟨b, e1, t1, t2⟩ := h.tlb i hi hf k hk hk2
  obtain ⟨a, e2, e3⟩ := hK _ _ e1;exact ⟨a, e2, t1, t2.mono hK e3 (fun _ _ _ => rfl) h.name⟩
 ·rw [h.ths.2 n]
  constructor
  ·rintro ⟨a, e1, e2⟩
   obtain ⟨b, hb, hv'⟩ := hK n a e1;exact ⟨b, hb, by rw [hv'.kind]; exact e2⟩
  ·rintro ⟨a, e1, e2⟩
   obtain ⟨b, hb, hv', -⟩ := hback n a e1;exact ⟨b, hb, by rw [<- hv'.kind]; exact e2⟩
 ·rw [hset] at e
  by_cases e1 : n = o.name
  ·rw [if_pos e1] at e; cases e
  ·rw [if_neg e1] at e; exact h.cnt0 n h0 e
theorem Inv.cores (h : Inv g K) {f : Nat -> KCore} {tlb : Nat -> Pl} {flush : Nat -> Bool} {last : Nat -> Int} (h1 : ∀ i, i < K.nc -> flush i = false -> TlbOk { g with tlb := tlb, flush := flush, last := last } K i) (h2 : ∀ i, i < K.nc -> 0 <= (tlb i).n /\ (tlb i).n < 4) : Inv { g with tlb := tlb, flush := flush, last := last } { K with cores := f } :=
 ⟨h.own, h.name, h.cont, fun n o e k => ⟨(h.seg n o e k).inn, (h.seg n o e k).len, (h.seg n o e k).p16, (h.seg n o e k).data⟩, h.noseg, h.thr, h1, h2, h.ths, h.room, h.cnt0⟩
end
end Go.Proofs.YtiadbhiadhgjkaaGreatDoor
namespace Go.Proofs.YtiadbhiadhgjkaaGreatDoor
open Go.RowKit
def Ob.wName (o : Ob) (n : Int) : Ob := { o with name := n }
def Ob.wNames (o : Ob) (r : Rng) : Ob := { o with names := r }
def Ob.wPurse (o : Ob) (p : Purse) : Ob := { o with purse := p }
def Ob.wPages (o : Ob) (n : Nat) : Ob := { o with pages := n }
theorem obC_names (o : Ob) (s : Os) (mt : Int) (T : Value) : In (obC o s mt T) 12 o.names.list := fun k hk => match k, hk with
 | 0, _ => rfl
 | 1, _ => rfl
 | 2, _ => rfl
 | k + 3, h => absurd h (by show ¬ k + 3 < 3; omega)
theorem obC_purse (o : Ob) (s : Os) (mt : Int) (T : Value) : In (obC o s mt T) 9 o.purse.list := fun k hk => match k, hk with
 | 0, _ => rfl
 | 1, _ => rfl
 | 2, _ => rfl
 | k + 3, h => absurd h (by show ¬ k + 3 < 3; omega)
theorem obC_far (o o' : Ob) (s : Os) (mt : Int) (T : Value) (p n : Nat) (cs' : Array Value) (l : List Value) (hi : In cs' p l) (ho : Out p n (obC o s mt T) cs') (hl : l.length = n) (h1 : In (obC o' s mt T) p l) (h2 : ∀ j, j < 36 -> ¬ (p <= j /\ j < p + n) -> (obC o' s mt T)[j]? = (obC o s mt T)[j]?) : cs' = obC o' s mt T := by
 apply Array.ext_getElem?;intro j;by_cases hj : p <= j /\ j < p + n
 ·have e1 := hi (j - p) (by omega)
  have e2 := h1 (j - p) (by omega);rw [show p + (j - p) = j by omega] at e1 e2;rw [e1, e2]
 ·rw [ho.2 j hj]
  by_cases h36 : j < 36
  ·exact (h2 j h36 hj).symm
  ·rw [Array.getElem?_eq_none (by show 36 <= j; omega), Array.getElem?_eq_none (by show 36 <= j; omega)]
theorem obC_names_eq {o : Ob} {s : Os} {mt : Int} {T : Value} {r : Rng} {cs' : Array Value} (hi : In cs' 12 r.list) (ho : Out 12 3 (obC o s mt T) cs') : cs' = obC (o.wNames r) s mt T :=
 obC_far o _ s mt T 12 3 cs' r.list hi ho rfl (obC_names _ s mt T) fun j hj hn => match j, hj, hn with
  | 0, _, h => rfl
  | 1, _, h => rfl
  | 2, _, h => rfl
  | 3, _, h => rfl
  | 4, _, h => rfl
  | 5, _, h => rfl
  | 6, _, h => rfl
  | 7, _, h => rfl
  | 8, _, h => rfl
  | 9, _, h => rfl
  | 10, _, h => rfl
  | 11, _, h => rfl
  | 12, _, h => absurd h (by omega)
  | 13, _, h => absurd h (by omega)
  | 14, _, h => absurd h (by omega)
  | 15, _, h => rfl
  | 16, _, h => rfl
  | 17, _, h => rfl
  | 18, _, h => rfl
  | 19, _, h => rfl
  | 20, _, h => rfl
  | 21, _, h => rfl
  | 22, _, h => rfl
  | 23, _, h => rfl
  | 24, _, h => rfl
  | 25, _, h => rfl
  | 26, _, h => rfl
  | 27, _, h => rfl
  | 28, _, h => rfl
  | 29, _, h => rfl
  | 30, _, h => rfl
  | 31, _, h => rfl
  | 32, _, h => rfl
  | 33, _, h => rfl
  | 34, _, h => rfl
  | 35, _, h => rfl
  | j + 36, h, _ => absurd h (by omega)
theorem obC_purse_eq {o : Ob} {s : Os} {mt : Int} {T : Value} {r : Purse} {cs' : Array Value} (hi : In cs' 9 r.list) (ho : Out 9 3 (obC o s mt T) cs') : cs' = obC (o.wPurse r) s mt T :=
 obC_far o _ s mt T 9 3 cs' r.list hi ho rfl (obC_purse _ s mt T) fun j hj hn => match j, hj, hn with
  | 0, _, h => rfl
  | 1, _, h => rfl
  | 2, _, h => rfl
  | 3, _, h => rfl
  | 4, _, h => rfl
  | 5, _, h => rfl
  | 6, _, h => rfl
  | 7, _, h => rfl
  | 8, _, h => rfl
  | 9, _, h => absurd h (by omega)
  | 10, _, h => absurd h (by omega)
  | 11, _, h => absurd h (by omega)
  | 12, _, h => rfl
  | 13, _, h => rfl
  | 14, _, h => rfl
  | 15, _, h => rfl
  | 16, _, h => rfl
  | 17, _, h => rfl
  | 18, _, h => rfl
  | 19, _, h => rfl
  | 20, _, h => rfl
  | 21, _, h => rfl
  | 22, _, h => rfl
  | 23, _, h => rfl
  | 24, _, h => rfl
  | 25, _, h => rfl
  | 26, _, h => rfl
  | 27, _, h => rfl
  | 28, _, h => rfl
  | 29, _, h => rfl
  | 30, _, h => rfl
  | 31, _, h => rfl
  | 32, _, h => rfl
  | 33, _, h => rfl
  | 34, _, h => rfl
  | 35, _, h => rfl
  | j + 36, h, _ => absurd h (by omega)
structure ObAt (w : World) (g : Gh) (o : Ob) (s : Os) (T : Value) : Prop where
 blk : Blk w (g.bl o.name) (obC o s (g.mt o.name) T) 68
 rows : ObRows w g.A (g.bl o.name) o s (g.fr o.name)
 th : o.kind = 3 -> T = .pointer (some ⟨g.tl o.name, 0, none⟩) /\ ThIn w g.A o.name (g.tl o.name) o.th (g.root o.name) (g.tabs o.name)
 no : o.kind ≠ 3 -> T = .pointer none
theorem KIn.at {w : World} {g : Gh} {K : Km} {o : Ob} {n : Int} (h : KIn w g K) (ho : K.obj n = some o) : ∃ s T, ObAt w g o s T := by
 obtain ⟨s, T, h1, h2, h3, h4⟩ := (h.objs _ _ ho).2.ex;exact ⟨s, T, h1, h2, h3, h4⟩
theorem ObAt.below {w w' : World} {g : Gh} {o : Ob} {s : Os} {T : Value} (h : ObAt w g o s T) (k : Below w.heap.size w w') : ObAt w' g o s T := by
 have k0 := Kept.of_below (S := fun _ => False) k;exact ⟨h.blk.below k h.blk.lt, h.rows.kept k0 (Mild.none w) (fun _ q => q.elim) (fun _ _ e => e), fun e => ⟨(h.th e).1, (h.th e).2.kept k0 (Mild.none w) (fun _ q => q.elim) (fun _ _ e => e)⟩, h.no⟩
structure SameRows (o o' : Ob) : Prop where
 name : o'.name = o.name
 lab : o'.lab = o.lab
 clear : o'.clear = o.clear
 q : o'.q = o.q
 kids : o'.kids = o.kids
 maps : o'.maps = o.maps
 out : o'.out = o.out
 ring : o'.ring = o.ring
theorem ObRows.same {w : World} {A : Nat -> Option (Int × Nat)} {b : Nat} {o o' : Ob} {s : Os} {fr : List Int} (h : ObRows w A b o s fr) (e : SameRows o o') : ObRows w A b o' s fr := by
 obtain ⟨e1, e2, e3, e4, e5, e6, e7, e8⟩ := e;exact ⟨by rw [e2]; exact h.lab, by rw [e3]; exact h.clr, by rw [e1, e4]; exact h.q, by rw [e1, e5]; exact h.kids, h.frs, by rw [e1]; exact h.frt, by rw [e1, e6]; exact h.maps, by rw [e1, e7]; exact h.out, h.rat, by rw [e8]; exact h.rn, by rw [e8]; exact h.ring, by rw [e2, e3]; exact h.ok⟩
section
variable {w w' : World} {g : Gh} {K : Km} {o o' : Ob}
theorem KIn.nums (h : KIn w g K) (ho : K.obj o.name = some o) {s : Os} {T : Value} (hO : ObAt w g o s T)
  (k : Kept (· = g.bl o.name) w w') (hB' : Blk w' (g.bl o.name) (obC o' s (g.mt o.name) T) 68) (e : SameRows o o') (hkind : o'.kind = o.kind) (hth : o'.th = o.th) : KIn w' g (K.set o') /\ Ext g g w w' := by
 obtain ⟨hB, hR, h3, hT⟩ := hO;have hx := (h.objs _ _ ho).2;have hm : Mild w (· = g.bl o.name) := Mild.of hB (by decide);refine h.wrote (o := o) (s' := s) (T := T) k hm ho (fun b q _ => ⟨0, by rw [q]; exact hx.tag⟩) (Alike0.refl g) (fun m => Alike1.refl g m) ⟨rfl, rfl, rfl⟩ rfl (fun _ _ e => e) (fun b hb => h.nrm b (Nat.le_trans k.size hb)) e.name hB' ?_ ?_ ?_
 ·exact (hR.kept k hm (fun c q _ i h1 _ e2 => by rw [q, hx.tag] at e2; cases e2; omega) (fun _ _ e => e)).same e
 ·intro e1
  rw [hkind] at e1;rw [hth];exact ⟨(h3 e1).1, (h3 e1).2.kept k hm (fun c q _ i hi e2 => by rw [q, hx.tag] at e2; cases e2; omega) (fun _ _ e => e)⟩
 ·intro e1; rw [hkind] at e1; exact hT e1
theorem KIn.setNames (h : KIn w g K) (ho : K.obj o.name = some o) {s : Os} {T : Value} (hO : ObAt w g o s T)
  {r : Rng} (hP : Piece w w' (g.bl o.name) 68 12 (obC o s (g.mt o.name) T) 3 r.list) : KIn w' g (K.set (o.wNames r)) /\ Ext g g w w' := by
 obtain ⟨cs', p1, p2, p3, p4, -⟩ := hP;rw [obC_names_eq p2 p3] at p1;exact h.nums ho hO p4 p1 ⟨rfl, rfl, rfl, rfl, rfl, rfl, rfl, rfl⟩ rfl rfl
theorem KIn.setPurse (h : KIn w g K) (ho : K.obj o.name = some o) {s : Os} {T : Value} (hO : ObAt w g o s T)
  {r : Purse} (hP : Piece w w' (g.bl o.name) 68 9 (obC o s (g.mt o.name) T) 3 r.list) : KIn w' g (K.set (o.wPurse r)) /\ Ext g g w w' := by
 obtain ⟨cs', p1, p2, p3, p4, -⟩ := hP;rw [obC_purse_eq p2 p3] at p1;exact h.nums ho hO p4 p1 ⟨rfl, rfl, rfl, rfl, rfl, rfl, rfl, rfl⟩ rfl rfl
end
theorem Km.set_set (K : Km) (a b : Ob) (e : b.name = a.name) : (K.set a).set b = K.set b := by
 unfold Km.set;congr 1
 funext n
 show (if n = b.name then some b else if n = a.name then some a else K.obj n) = if n = b.name then some b else K.obj n
 by_cases h : n = b.name
 ·rw [if_pos h, if_pos h]
 ·rw [if_neg h, if_neg h, if_neg (by rw [<- e]; exact h)]
theorem Km.set_same (K : Km) (o : Ob) : (K.set o).obj o.name = some o := if_pos rfl
theorem Km.set_other (K : Km) (o : Ob) {n : Int} (h : n ≠ o.name) : (K.set o).obj n = K.obj n := if_neg h
theorem Km.set_comm (K : Km) (a b : Ob) (e : a.name ≠ b.name) : (K.set a).set b = (K.set b).set a := by
 unfold Km.set;congr 1
 funext n
 show (if n = b.name then some b else if n = a.name then some a else K.obj n) = if n = a.name then some a else if n = b.name then some b else K.obj n
 by_cases h : n = b.name
 ·rw [if_pos h, if_neg (by rw [h]; exact fun x => e x.symm), if_pos h]
 ·rw [if_neg h, if_neg h]
theorem ObAt.purse {w : World} {g : Gh} {o : Ob} {s : Os} {T : Value} (h : ObAt w g o s T) : w.cell? ⟨g.bl o.name, 9, none⟩ = some (.int .i64 o.purse.lim) /\ w.cell? ⟨g.bl o.name, 10, none⟩ = some (.int .i64 o.purse.used) /\ w.cell? ⟨g.bl o.name, 11, none⟩ = some (.int .i64 o.purse.given) :=
 ⟨(h.blk.cell 9).trans rfl, (h.blk.cell 10).trans rfl, (h.blk.cell 11).trans rfl⟩
theorem ObAt.names {w : World} {g : Gh} {o : Ob} {s : Os} {T : Value} (h : ObAt w g o s T) : w.cell? ⟨g.bl o.name, 12, none⟩ = some (.int .u64 o.names.lo) /\ w.cell? ⟨g.bl o.name, 13, none⟩ = some (.int .u64 o.names.next) /\ w.cell? ⟨g.bl o.name, 14, none⟩ = some (.int .u64 o.names.hi) :=
 ⟨(h.blk.cell 12).trans rfl, (h.blk.cell 13).trans rfl, (h.blk.cell 14).trans rfl⟩
theorem ObAt.name {w : World} {g : Gh} {o : Ob} {s : Os} {T : Value} (h : ObAt w g o s T) : w.cell? ⟨g.bl o.name, 2, none⟩ = some (.int .u64 o.name) := (h.blk.cell 2).trans rfl
theorem KIn.kcell {w : World} {g : Gh} {K : Km} (h : KIn w g K) : w.cell? ⟨g.kb, 0, none⟩ = some (.pointer (some ⟨g.tb, 0, none⟩)) /\ w.cell? ⟨g.kb, 1, none⟩ = some (.pointer (some ⟨g.pb, 0, none⟩)) := by
 obtain ⟨cv, sv, dv, -, hB, -⟩ := h.kern.ex;exact ⟨(hB.cell 0).trans rfl, (hB.cell 1).trans rfl⟩
theorem calls_gen {P : Program} {f : FuncId} {args : Array Value} {W : World} {Q : Ending -> World -> Prop} (h : ∀ w2, w2 = W -> Calls P f args w2 Q) : Calls P f args W Q := h _ rfl
structure Mk (w0 w : World) (g0 g : Gh) (K : Km) (xb : Nat) (x : Ob) (s : Os) (mt : Int) (T : Value) (tb : Nat) : Prop where
 kin : KIn w g K
 ext : Ext g0 g w0 w
 blk : Blk w xb (obC x s mt T) 68
 lab : PairsIn w s.lp x.lab.ps
 no : g.A xb = none
 th : tb ≠ 0 -> Blk w tb (thC th0 ⟨.slice none 0 0, .slice none 0 0, .slice none 0 0, .slice none 0 0, .slice none 0 0, .slice none 0 0⟩ 0 0) 52 /\ g.A tb = none /\ tb ≠ xb /\ w0.heap.size <= tb
section
variable {w0 w w' : World} {g0 g g' : Gh} {K : Km} {xb : Nat} {x : Ob} {s : Os} {mt : Int} {T : Value} {tb : Nat}
theorem Mk.below (h : Mk w0 w g0 g K xb x s mt T tb) (k : Below w.heap.size w w') : Mk w0 w' g0 g K xb x s mt T tb :=
 ⟨h.kin.below k, h.ext.trans (Ext.below k), h.blk.below k h.blk.lt, RowAt.below h.lab k (Nat.le_refl _), h.no, fun e => ⟨(h.th e).1.below k (h.th e).1.lt, (h.th e).2⟩⟩
theorem Mk.setX (h : Mk w0 w g0 g K xb x s mt T tb) (i : Nat) (v : Value) {x' : Ob} {s' : Os} {mt' : Int} {T' : Value} (e : (obC x s mt T).setIfInBounds i v = obC x' s' mt' T') (hl : s'.lp = s.lp /\ x'.lab = x.lab) (h0 : w0.heap.size <= xb) : Mk w0 (w.setCell ⟨xb, i, none⟩ v) g0 g K xb x' s' mt' T' tb :=
 ⟨h.kin.setCell h.blk (.inl h.no) (by decide) i v, ⟨h.ext.al, h.ext.kept.setNew xb i v h0, h.ext.tag, h.ext.bl⟩, (h.blk.set i v).cells e, by rw [hl.1, hl.2]; exact PairsIn.mild h.lab ((Kept.refl (· = xb) w).setIn xb i v rfl) (Mild.of h.blk (by decide)), h.no, fun e => ⟨(h.th e).1.set_other (fun q => (h.th e).2.2.1 q.symm) v, (h.th e).2⟩⟩
theorem Mk.names (h : Mk w0 w g0 g K xb x s mt T tb) {o : Ob} (ho : K.obj o.name = some o) {so : Os} {To : Value} (hO : ObAt w g o so To) {r : Rng} (hP : Piece w w' (g.bl o.name) 68 12 (obC o so (g.mt o.name) To) 3 r.list) : Mk w0 w' g0 g (K.set (o.wNames r)) xb x s mt T tb := by
 obtain ⟨k1, k2⟩ := h.kin.setNames ho hO hP;obtain ⟨cs', p1, p2, p3, p4, -⟩ := hP;have ht := (h.kin.objs _ _ ho).2.tag;exact ⟨k1, h.ext.trans k2, p4.blk h.blk (fun e => by rw [<- e, h.no] at ht; cases ht), PairsIn.mild h.lab p4 (Mild.of hO.blk (by decide)), h.no, fun e => ⟨p4.blk (h.th e).1 (fun q => by rw [<- q, (h.th e).2.1] at ht; cases ht), (h.th e).2⟩⟩
theorem Mk.purse (h : Mk w0 w g0 g K xb x s mt T tb) {o : Ob} (ho : K.obj o.name = some o) {so : Os} {To : Value} (hO : ObAt w g o so To) {r : Purse} (hP : Piece w w' (g.bl o.name) 68 9 (obC o so (g.mt o.name) To) 3 r.list) : Mk w0 w' g0 g (K.set (o.wPurse r)) xb x s mt T tb := by
 obtain ⟨k1, k2⟩ := h.kin.setPurse ho hO hP;obtain ⟨cs', p1, p2, p3, p4, -⟩ := hP;have ht := (h.kin.objs _ _ ho).2.tag;exact ⟨k1, h.ext.trans k2, p4.blk h.blk (fun e => by rw [<- e, h.no] at ht; cases ht), PairsIn.mild h.lab p4 (Mild.of hO.blk (by decide)), h.no, fun e => ⟨p4.blk (h.th e).1 (fun q => by rw [<- q, (h.th e).2.1] at ht; cases ht), (h.th e).2⟩⟩
theorem ps_mild {pb db ob : Nat} {P : Pool} (h : PoolAt w pb db ob P) : Mild w (PS pb db ob) := by
 intro b cs ty fz e hh;rcases e with e | e | e
 ·cases e; have := h.hp; unfold Blk at this; rw [this] at hh; cases hh; decide
 ·cases e; have := h.hd; unfold Blk at this; rw [this] at hh; cases hh; decide
 ·cases e; have := h.ho; unfold Blk at this; rw [this] at hh; cases hh; decide
theorem Mk.pool (h : Mk w0 w g0 g K xb x s mt T tb) {P' : Pool} (hP : PoolAt w' g.pb g.db g.ob P') (k : Kept (PS g.pb g.db g.ob) w w') : Mk w0 w' g0 { g with P := P' } K xb x s mt T tb := by
 have hm := ps_mild h.kin.pool
 have hn : ∀ b, PS g.pb g.db g.ob b -> ∃ i, g.A b = some (0, i) := fun b q => by
  rcases q with q | q | q
  ·exact ⟨3, by rw [q]; exact h.kin.tags.pb⟩
  ·exact ⟨4, by rw [q]; exact h.kin.tags.db⟩
  ·exact ⟨5, by rw [q]; exact h.kin.tags.ob⟩
 have hx : ¬ PS g.pb g.db g.ob xb := fun q => by obtain ⟨i, e⟩ := hn xb q; rw [h.no] at e; cases e
 have hy : tb ≠ 0 -> ¬ PS g.pb g.db g.ob tb := fun q1 q => by obtain ⟨i, e⟩ := hn tb q; rw [(h.th q1).2.1] at e; cases e
 exact ⟨h.kin.setPool k hm (fun b q _ => .inr q) hP, h.ext.trans (Ext.wrote ⟨rfl, rfl, rfl, rfl, rfl, rfl, rfl, fun _ _ e => e⟩ k (fun b q _ => by obtain ⟨i, e⟩ := hn b q; exact ⟨_, e⟩) (fun _ _ e => e) (fun _ _ => ⟨rfl, rfl⟩)), k.blk h.blk hx, PairsIn.mild h.lab k hm, h.no, fun e => ⟨k.blk (h.th e).1 (hy e), (h.th e).2⟩⟩
end
end Go.Proofs.YtiadbhiadhgjkaaGreatDoor
namespace Go.Proofs.YtiadbhiadhgjkaaGreatDoor
open Go.RowKit
def Ob.wTh (o : Ob) (t : Th) : Ob := { o with th := t }
structure ThAt (w : World) (g : Gh) (n : Int) (t : Th) (x : Ts) : Prop where
 blk : Blk w (g.tl n) (thC t x (g.root n) (g.tabs n)) 52
 rows : ThRows w g.A n t x
 tag : g.A (g.tl n) = some (n, 10)
section
variable {w w' : World} {g g' : Gh} {K : Km} {o : Ob}
theorem KIn.thAt (h : KIn w g K) {n : Int} (ho : K.obj n = some o) (hk : o.kind = 3) : ∃ x, ThAt w g o.name o.th x := by
 obtain ⟨s, T, h1, h2, h3, h4⟩ := (h.objs _ _ ho).2.ex;obtain ⟨-, e2⟩ := h3 hk;obtain ⟨x, e3, e4⟩ := e2.ex;exact ⟨x, e3, e4, e2.tag⟩
theorem ThAt.below {n : Int} {t : Th} {x : Ts} (h : ThAt w g n t x) (k : Below w.heap.size w w') : ThAt w' g n t x :=
 ⟨h.blk.below k h.blk.lt, h.rows.kept (S := fun _ => False) (Kept.of_below k) (Mild.none w) (fun _ q => q.elim) (fun _ _ e => e), h.tag⟩
theorem KIn.tcell (h : KIn w g K) {n : Int} (ho : K.obj n = some o) (hk : o.kind = 3) : w.cell? ⟨g.bl n, 19, none⟩ = some (.pointer (some ⟨g.tl n, 0, none⟩)) := by
 obtain ⟨e1, e2⟩ := h.objs _ _ ho;obtain ⟨s, T, h1, h2, h3, h4⟩ := e2.ex;rw [e1] at h1 h3;rw [(h3 hk).1] at h1;exact (h1.cell 19).trans rfl
theorem KIn.thr (h : KIn w g K) (ho : K.obj o.name = some o) (hk : o.kind = 3) {S : Nat -> Prop} (k : Kept S w w') (hm : Mild w S) (hS : ∀ b, S b -> b < w.heap.size -> ∃ i, 10 <= i /\ g.A b = some (o.name, i)) (l : Alike0 g g') (hl : ∀ n, n ≠ o.name -> Alike1 g g' n)
  (hsame : g'.bl o.name = g.bl o.name /\ g'.tl o.name = g.tl o.name /\ g'.mt o.name = g.mt o.name /\ g'.fr o.name = g.fr o.name) (ht2 : g'.tlb = g.tlb /\ g'.flush = g.flush /\ g'.last = g.last) (hP : g'.P = g.P)
  (hnew : ∀ b, b < w.heap.size -> g.A b = none -> g'.A b = none) (hnrm : ∀ b, w'.heap.size <= b -> g'.A b = none) {t : Th} {x : Ts} (hB : Blk w' (g.tl o.name) (thC t x (g'.root o.name) (g'.tabs o.name)) 52) (hR : ThRows w' g'.A o.name t x) :
  KIn w' g' (K.set (o.wTh t)) /\ Ext g g' w w' := by
 obtain ⟨e1, e2⟩ := h.objs _ _ ho;obtain ⟨s, T, h1, h2, h3, h4⟩ := e2.ex;obtain ⟨e3, e4⟩ := h3 hk;obtain ⟨q1, q2, q3, q4⟩ := hsame
 have hb : ∀ n, g'.bl n = g.bl n /\ g'.tl n = g.tl n := fun n => by
  by_cases e : n = o.name
  ·rw [e]; exact ⟨q1, q2⟩
  ·exact ⟨(hl n e).bl, (hl n e).tl⟩
 have hlt := h1.lt;refine ⟨h.setOb k hm ho (fun b q ql => .inr (by obtain ⟨i, -, e⟩ := hS b q ql; exact ⟨i, e⟩)) l hl q1 ht2 hP hnrm rfl ⟨e2.pos, ?_, ?_, s, T, ?_, ?_, fun _ => ?_, fun e => absurd hk e⟩, Ext.wrote l k (fun b q ql => by obtain ⟨i, -, e⟩ := hS b q ql; exact ⟨_, e⟩) hnew (fun n _ => hb n)⟩
 ·show g'.A (g'.bl o.name) = _
  rw [q1]; exact l.A _ _ e2.tag
 ·show g'.pb < g'.bl o.name /\ g'.db < g'.bl o.name /\ g'.ob < g'.bl o.name
  rw [q1, l.pb, l.db, l.ob]; exact e2.late
 ·show Blk w' (g'.bl o.name) (obC (o.wTh t) s (g'.mt o.name) T) _
  rw [q1, q3];exact k.blk h1 (fun q => by obtain ⟨i, hi, e⟩ := hS _ q hlt; rw [e2.tag] at e; cases e; omega)
 ·show ObRows w' g'.A (g'.bl o.name) (o.wTh t) s (g'.fr o.name)
  rw [q1, q4];have := h2.kept k hm (fun c q ql i _ h5 e => by obtain ⟨j, hj, e'⟩ := hS c q ql; rw [e'] at e; cases e; omega) l.A;exact this.same ⟨rfl, rfl, rfl, rfl, rfl, rfl, rfl, rfl⟩
 ·show T = .pointer (some ⟨g'.tl o.name, 0, none⟩) /\ ThIn w' g'.A o.name (g'.tl o.name) t (g'.root o.name) (g'.tabs o.name)
  rw [q2];exact ⟨e3, l.A _ _ e4.tag, x, hB, hR⟩
theorem KIn.thNums (h : KIn w g K) (ho : K.obj o.name = some o) (hk : o.kind = 3) {x x' : Ts} (hT : ThAt w g o.name o.th x) (k : Kept (· = g.tl o.name) w w') {t : Th} (hB : Blk w' (g.tl o.name) (thC t x' (g.root o.name) (g.tabs o.name)) 52)
  (hx : x'.al = x.al /\ x'.locks = x.locks /\ x'.reads = x.reads /\ x'.seen = x.seen /\ x'.picks = x.picks) (ht : t.alerts = o.th.alerts /\ t.cont.locks = o.th.cont.locks /\ t.cont.reads = o.th.cont.reads /\ t.cont.seen = o.th.cont.seen /\ t.cont.picks = o.th.cont.picks)
  (hcl : PairsIn w' x'.cp t.clear.ps) (hreg : ∀ i, 0 <= t.r i /\ t.r i <= 18446744073709551615) (hpc : 0 <= t.pc /\ t.pc <= 18446744073709551615) (hok : LabOk t.clear) : KIn w' g (K.set (o.wTh t)) /\ Ext g g w w' := by
 have hm : Mild w (· = g.tl o.name) := Mild.of hT.blk (by decide);have hr := hT.rows.kept k hm (A' := g.A) (fun c q _ i hi e => by rw [q, hT.tag] at e; cases e; omega) (fun _ _ e => e);obtain ⟨a1, a2, a3, a4, a5⟩ := hx;obtain ⟨b1, b2, b3, b4, b5⟩ := ht
 exact h.thr ho hk k hm (fun b q _ => ⟨10, Nat.le_refl _, by rw [q]; exact hT.tag⟩) (Alike0.refl g) (fun n _ => Alike1.refl g n) ⟨rfl, rfl, rfl, rfl⟩ ⟨rfl, rfl, rfl⟩ rfl (fun _ _ e => e) (fun b hb => h.nrm b (Nat.le_trans k.size hb)) hB
  ⟨hcl, by rw [a1, b1]; exact hr.al, by rw [a2, b2]; exact hr.locks, by rw [a3, b3]; exact hr.reads, by rw [a4, b4]; exact hr.seen, by rw [a5, b5]; exact hr.picks, hreg, hpc, hok⟩
end
end Go.Proofs.YtiadbhiadhgjkaaGreatDoor
namespace Go.Proofs.YtiadbhiadhgjkaaGreatDoor
open Go.RowKit
theorem cell_drew {w : World} {p : Addr} {v : Value} (h : w.cell? p = some v) : w.drew.cell? p = some v := h
attribute [local irreducible] World.setCell World.alloc World.drew World.setRow Calls Code.wp
theorem modulo_any (n m : Int) (w : World) (hm : 1 <= m /\ m <= 1000000) :
  Calls Tryz.prog 40 #[.int .i64 n, .int .i64 m] w fun e w' => e = .returned (.int .i64 (n % m)) /\ w = w' := by
 have a1 : -m < n.tmod m /\ n.tmod m < m := ⟨by have := Int.lt_tmod_of_pos n (show 0 < m by omega); omega, Int.tmod_lt_of_pos n (by omega)⟩
 have a2 : (n.tmod m + m).tmod m = n % m := by
  rw [Int.tmod_eq_emod_of_nonneg (by omega), Int.add_emod_right];have e := Int.tmod_add_mul_tdiv n m;have e2 : (n.tmod m + m * n.tdiv m) % m = n.tmod m % m := Int.add_mul_emod_self_left _ _ _;rw [e] at e2; exact e2.symm
 have w1 : IntKind.i64.wrap (n.tmod m) = n.tmod m := IntWalk.i64_in _ (by omega);have w2 : IntKind.i64.wrap (n.tmod m + m) = n.tmod m + m := IntWalk.i64_in _ (by omega)
 have w3 : IntKind.i64.wrap ((n.tmod m + m).tmod m) = (n.tmod m + m).tmod m := by
  rw [a2];have b1 := Int.emod_nonneg n (show m ≠ 0 by omega); have b2 := Int.emod_lt_of_pos n (show 0 < m by omega);exact IntWalk.i64_in _ (by omega)
 have h0 : (m == 0) = false := by simp; omega
 have A2 := Lib.hid a2;clear a2 a1;go_enter Tryz.func40, Tryz.ntmps40
 go_wp2_with fail
 go_ret;refine ⟨?_, rfl⟩;show Ending.returned (.int .i64 ((n.tmod m + m).tmod m)) = _
 rw [A2.out]
theorem cturn_any (b o : Nat) (slot : Nat) (t n : Int) (w : World) (hs : slot < 8) (h0 : w.cell? ⟨b, o, none⟩ = some (.int .i64 slot)) (h1 : w.cell? ⟨b, o + 3 + slot, none⟩ = some (.int .u64 t)) (hn : 1 <= n /\ n <= 1000000) (ht : 0 <= t /\ t <= 18446744073709551615) :
  Calls Tryz.prog 93 #[.pointer (some ⟨b, o, none⟩), .int .i64 n] w fun e w' => e = .returned (.int .i64 (t % n)) /\ Below w.heap.size w w' := by
 have a2 : t.tmod n = t % n := Int.tmod_eq_emod_of_nonneg ht.1;have b1 := Int.emod_nonneg t (show n ≠ 0 by omega); have b2 := Int.emod_lt_of_pos t (show 0 < n by omega);have w1 : IntKind.u64.wrap n = n := IntWalk.u64_in _ (by omega);have w2 : IntKind.u64.wrap (t % n) = t % n := IntWalk.u64_in _ (by omega);have w3 : wrap64 (t % n) = t % n := by unfold wrap64; omega
 have hz : (n == 0) = false := by
  have : ¬ (n = 0) := by omega
  simpa using this
 have hl : ¬ n < 1 := by omega
 have hs2 : (slot : Int) < 8 := by omega
 have k0 : w.drew.cell? ⟨b, o, none⟩ = some (.int .i64 slot) := cell_drew h0;have k1 : w.drew.cell? ⟨b, o + 3 + slot, none⟩ = some (.int .u64 t) := cell_drew h1;clear a2 b1 b2;go_enter Tryz.func93, Tryz.ntmps93
 go_wp2_with fail
 go_region
 all_goals
  go_wp2_with fail
  go_ret;refine ⟨?_, (Below.refl _ w).drew⟩;show Ending.returned (.int .i64 (wrap64 (t % n))) = _
  rw [w3]
end Go.Proofs.YtiadbhiadhgjkaaGreatDoor
