/- Of the proof of this claim: a joined text. -/
import Derived.Test.YtiadbhiadhgjkaaGreatDoorZzPgNo
import Derived.Test.YtiadbhiadhgjkaaGreatDoorZzKb
set_option maxRecDepth 100000
set_option maxHeartbeats 4000000
namespace Go.Proofs.YtiadbhiadhgjkaaGreatDoor
open Go.RowKit
theorem coreC_len (c : KCore) (t : Pl) (fl : Bool) (la : Int) : (coreC c t fl la).length = 27 := rfl
def Gh.core (g : Gh) (i : Nat) (t : Pl) (fl : Bool) (la : Int) : Gh := { g with tlb := fun j => if j = i then t else g.tlb j, flush := fun j => if j = i then fl else g.flush j, last := fun j => if j = i then la else g.last j }
theorem KIn.core {w w' : World} {g : Gh} {K : Km} (h : KIn w g K) {i : Nat} (hi : i < K.nc) {cs cs' : Array Value} (hB : Blk w g.cb cs 162) (hin : ∀ j, j < K.nc -> In cs (j * 27) (coreC (K.cores j) (g.tlb j) (g.flush j) (g.last j)))
  (hB' : Blk w' g.cb cs' 162) (ho : Out (i * 27) 27 cs cs') (k : Kept (· = g.cb) w w') {c : KCore} {t : Pl} {fl : Bool} {la : Int} (hi' : In cs' (i * 27) (coreC c t fl la)) (hok : CoreOk c K.slots.length) :
  KIn w' (g.core i t fl la) (K.core i c) := by
 have hC := h.cores;obtain ⟨htag, -⟩ := hC.ex (by omega);refine h.setCores (S := (· = g.cb)) (f := fun j => if j = i then c else K.cores j) (tlb := fun j => if j = i then t else g.tlb j) (flush := fun j => if j = i then fl else g.flush j) (last := fun j => if j = i then la else g.last j) k (Mild.of hB (by decide)) htag (fun b q _ => .inr q) ⟨fun _ => ⟨htag, cs', hB', fun j hj => ?_⟩, fun j hj => ?_, hC.nc, hC.ns⟩
 ·by_cases e : j = i
  ·subst e
   show In cs' (j * 27) (coreC (if j = j then c else _) (if j = j then t else _) (if j = j then fl else _) (if j = j then la else _))
   rw [if_pos rfl, if_pos rfl, if_pos rfl, if_pos rfl]; exact hi'
  ·show In cs' (j * 27) (coreC (if j = i then c else _) (if j = i then t else _) (if j = i then fl else _) (if j = i then la else _))
   rw [if_neg e, if_neg e, if_neg e, if_neg e];intro q hq;rw [coreC_len] at hq;have hne : ¬ (i * 27 <= j * 27 + q /\ j * 27 + q < i * 27 + 27) := by omega
   rw [ho.2 _ hne];exact hin j hj q (by rw [coreC_len]; exact hq)
 ·show CoreOk (if j = i then c else K.cores j) _
  by_cases e : j = i
  ·rw [if_pos e]; exact hok
  ·rw [if_neg e]; exact hC.ok j hj
theorem KIn.corePiece {w w' : World} {g : Gh} {K : Km} (h : KIn w g K) {i : Nat} (hi : i < K.nc) {cs : Array Value} (hB : Blk w g.cb cs 162) (hin : ∀ j, j < K.nc -> In cs (j * 27) (coreC (K.cores j) (g.tlb j) (g.flush j) (g.last j)))
  {p n : Nat} {l : List Value} (hP : Piece w w' g.cb 162 (i * 27 + p) cs n l) (hpn : p + n <= 27) {c : KCore} {t : Pl} {fl : Bool} {la : Int} (hok : CoreOk c K.slots.length)
  (he : ∀ k, k < 27 -> (coreC c t fl la)[k]? = if p <= k /\ k < p + n then l[k - p]? else (coreC (K.cores i) (g.tlb i) (g.flush i) (g.last i))[k]?) :
  KIn w' (g.core i t fl la) (K.core i c) /\ Ext g (g.core i t fl la) w w' := by
 obtain ⟨cs', p1, p2, p3, p4, p5⟩ := hP;obtain ⟨htag, -⟩ := h.cores.ex (by omega);refine ⟨h.core hi hB hin p1 (p3.wide (by omega) (by omega)) p4 ?_ hok, Ext.wrote ⟨rfl, rfl, rfl, rfl, rfl, rfl, rfl, fun _ _ e => e⟩ p4 (fun b q _ => ⟨(0, 6), by rw [q]; exact htag⟩) (fun _ _ e => e) (fun _ _ => ⟨rfl, rfl⟩)⟩;exact (hin i hi).join p l p2 (by rw [p5]; exact p3) rfl (fun k hk => by rw [p5]; exact he k hk)
end Go.Proofs.YtiadbhiadhgjkaaGreatDoor
namespace Go.Proofs.YtiadbhiadhgjkaaGreatDoor
open Go.RowKit
attribute [local irreducible] World.setCell World.alloc World.drew World.setRow Calls Code.wp
theorem Own.slotCells {w : World} {A : Nat -> Option (Int × Nat)} {tg : Int × Nat} {sv : Value} {sl : List (Int × Int)} (h : Own w A tg 127 2 sv sl.length (sl.flatMap slotV)) (hp : 0 < sl.length) :
  ∃ sb cap, sv = .slice (some ⟨sb, 0, none⟩) sl.length cap /\ A sb = some tg /\ ∀ j, j < sl.length -> w.cell? ⟨sb, j * 2, none⟩ = some (.int .u64 (sl.getD j (0, 0)).1) /\ w.cell? ⟨sb, j * 2 + 1, none⟩ = some (.int .i64 (sl.getD j (0, 0)).2) := by
 obtain ⟨hlen, ⟨-, h0⟩ | ⟨sb, cap, cur, rfl, -, hcur, h1, h2, h3, h4⟩⟩ := h.row
 ·omega
 ·refine ⟨sb, cap, rfl, h.tag sb rfl, fun j hj => ?_⟩
  have hB : Blk w sb cur 127 := hcur;have hx : sl[j]? = some (sl.getD j (0, 0)) := by simp [List.getD, hj]
  have hc : ∀ i, i < 2 -> cur[j * 2 + i]? = (slotV (sl.getD j (0, 0)))[i]? := fun i hi => by
   rw [<- flat_at slotV 2 (fun _ => rfl) sl j _ hx i hi, <- h4, List.getElem?_take, if_pos (by omega), Array.getElem?_toList]
  exact ⟨(hB.cell _).trans (hc 0 (by omega)), (hB.cell _).trans (hc 1 (by omega))⟩
theorem Gh.core_same (g : Gh) (i : Nat) : g.core i (g.tlb i) (g.flush i) (g.last i) = g := by
 have e : ∀ {α : Type} (f : Nat -> α), (fun j => if j = i then f i else f j) = f := fun f => by
  funext j; by_cases h : j = i
  ·rw [if_pos h, h]
  ·rw [if_neg h]
 show { g with tlb := _, flush := _, last := _ } = g
 rw [e g.tlb, e g.flush, e g.last]
theorem wu_in (x : Int) : 0 <= wu x /\ wu x <= 18446744073709551615 := by unfold wu; omega
theorem upd_same' {α : Type} (f : Nat -> α) (i : Nat) (a : α) : upd f i a i = a := if_pos rfl
theorem upd_ne' {α : Type} (f : Nat -> α) (i j : Nat) (a : α) (h : j ≠ i) : upd f i a j = f j := if_neg h
theorem Km.core_same (K : Km) (i : Nat) : K.core i (K.cores i) = K := by
 show { K with cores := fun j => if j = i then K.cores i else K.cores j } = K
 have : (fun j => if j = i then K.cores i else K.cores j) = K.cores := by
  funext j; by_cases h : j = i
  ·rw [if_pos h, h]
  ·rw [if_neg h]
 rw [this]
theorem kflush_any (w : World) (g : Gh) (K : Km) (h : KIn w g K) (i : Nat) (hi : i < K.nc) :
  Calls Tryz.prog 42 #[.pointer (some ⟨g.cb, i * 27 + 11, none⟩)] w fun e w' => e = .returned (.tuple #[]) /\ KIn w' (g.core i Pl.zero (g.flush i) (g.last i)) K /\ Ext g (g.core i Pl.zero (g.flush i) (g.last i)) w w' := by
 obtain ⟨htag, cs, hB, hin⟩ := h.cores.ex (by omega)
 have hI : In cs (i * 27 + 11) (g.tlb i).list := (hin i hi).sub 11 _ (fun k hk => match k, hk with
  | 0, _ => rfl
  | 1, _ => rfl
  | 2, _ => rfl
  | 3, _ => rfl
  | 4, _ => rfl
  | 5, _ => rfl
  | 6, _ => rfl
  | 7, _ => rfl
  | 8, _ => rfl
  | 9, _ => rfl
  | 10, _ => rfl
  | 11, _ => rfl
  | 12, _ => rfl)
 refine (tflush_any g.cb (i * 27 + 11) _ (g.tlb i) cs w hB hI).mono ?_;rintro e w' ⟨rfl, hP⟩
 obtain ⟨k1, k2⟩ := h.corePiece hi hB hin (p := 11) hP (by decide) (c := K.cores i) (t := Pl.zero) (fl := g.flush i) (la := g.last i) (h.cores.ok i hi) (fun k hk => by
  by_cases e : 11 <= k /\ k < 24
  ·rw [if_pos e]
   obtain ⟨j, rfl⟩ : ∃ j, k = 11 + j := ⟨k - 11, by omega⟩;rw [show 11 + j - 11 = j by omega];have hj : j < 13 := by omega
   match j, hj with
   | 0, _ => rfl
   | 1, _ => rfl
   | 2, _ => rfl
   | 3, _ => rfl
   | 4, _ => rfl
   | 5, _ => rfl
   | 6, _ => rfl
   | 7, _ => rfl
   | 8, _ => rfl
   | 9, _ => rfl
   | 10, _ => rfl
   | 11, _ => rfl
   | 12, _ => rfl
  ·rw [if_neg e]
   match k, hk, e with
   | 0, _, _ => rfl
   | 1, _, _ => rfl
   | 2, _, _ => rfl
   | 3, _, _ => rfl
   | 4, _, _ => rfl
   | 5, _, _ => rfl
   | 6, _, _ => rfl
   | 7, _, _ => rfl
   | 8, _, _ => rfl
   | 9, _, _ => rfl
   | 10, _, _ => rfl
   | 11, _, e => exact absurd ⟨by decide, by decide⟩ e
   | 12, _, e => exact absurd ⟨by decide, by decide⟩ e
   | 13, _, e => exact absurd ⟨by decide, by decide⟩ e
   | 14, _, e => exact absurd ⟨by decide, by decide⟩ e
   | 15, _, e => exact absurd ⟨by decide, by decide⟩ e
   | 16, _, e => exact absurd ⟨by decide, by decide⟩ e
   | 17, _, e => exact absurd ⟨by decide, by decide⟩ e
   | 18, _, e => exact absurd ⟨by decide, by decide⟩ e
   | 19, _, e => exact absurd ⟨by decide, by decide⟩ e
   | 20, _, e => exact absurd ⟨by decide, by decide⟩ e
   | 21, _, e => exact absurd ⟨by decide, by decide⟩ e
   | 22, _, e => exact absurd ⟨by decide, by decide⟩ e
   | 23, _, e => exact absurd ⟨by decide, by decide⟩ e
   | 24, _, _ => rfl
   | 25, _, _ => rfl
   | 26, _, _ => rfl
   | k + 27, hk, _ => exact absurd hk (by omega))
 rw [Km.core_same] at k1;exact ⟨rfl, k1, k2⟩
theorem turnCell {w : World} {g : Gh} {K : Km} (h : KIn w g K) {i : Nat} (hi : i < K.nc) : ∃ s : Nat, (K.cores i).slot = (s : Int) /\ s < 8 /\ w.cell? ⟨g.cb, i * 27, none⟩ = some (.int .i64 s) /\ w.cell? ⟨g.cb, i * 27 + 3 + s, none⟩ = some (.int .u64 ((K.cores i).turns s)) := by
 obtain ⟨htag, cs, hB, hin⟩ := h.cores.ex (by omega);have hok := h.cores.ok i hi;have hn8 := h.cores.ns;have hsl := hok.slot;obtain ⟨s, hs⟩ : ∃ s : Nat, (K.cores i).slot = (s : Int) := ⟨(K.cores i).slot.toNat, by omega⟩;have hs8 : s < 8 := by omega
 refine ⟨s, hs, hs8, by rw [<- hs]; exact (hin i hi).cell hB 0 rfl, ?_⟩;rw [Nat.add_assoc];match s, hs8 with
 | 0, _ => exact (hin i hi).cell hB 3 rfl
 | 1, _ => exact (hin i hi).cell hB 4 rfl
 | 2, _ => exact (hin i hi).cell hB 5 rfl
 | 3, _ => exact (hin i hi).cell hB 6 rfl
 | 4, _ => exact (hin i hi).cell hB 7 rfl
 | 5, _ => exact (hin i hi).cell hB 8 rfl
 | 6, _ => exact (hin i hi).cell hB 9 rfl
 | 7, _ => exact (hin i hi).cell hB 10 rfl
theorem kturn_any (w : World) (g : Gh) (K : Km) (h : KIn w g K) (i : Nat) (hi : i < K.nc) (n : Int) (hn : 1 <= n /\ n <= 1000000) :
  Calls Tryz.prog 93 #[.pointer (some ⟨g.cb, i * 27, none⟩), .int .i64 n] w fun e w' => e = .returned (.int .i64 ((K.cores i).turns (K.cores i).slot.toNat % n)) /\ Below w.heap.size w w' := by
 obtain ⟨s, hs, hs8, h0, h1⟩ := turnCell h hi;rw [hs, Int.toNat_natCast];exact cturn_any g.cb (i * 27) s _ n w hs8 h0 h1 hn ((h.cores.ok i hi).turns s)
theorem kslot_any (w : World) (g : Gh) (K : Km) (h : KIn w g K) (i : Nat) (hi : i < K.nc) :
  Calls Tryz.prog 92 #[.pointer (some ⟨g.cb, i * 27, none⟩)] w fun e w' => e = .returned (.int .i64 (K.cores i).slot) /\ w = w' := by
 obtain ⟨s, hs, hs8, h0, -⟩ := turnCell h hi;rw [hs];clear hs hs8;go_enter Tryz.func92, Tryz.ntmps92
 go_wp2_with fail
 go_ret;exact ⟨rfl, rfl⟩
end Go.Proofs.YtiadbhiadhgjkaaGreatDoor
namespace Go.Proofs.YtiadbhiadhgjkaaGreatDoor
open Go.RowKit
theorem sum_upd (n : Int) (f f' : Int -> Int) : ∀ (l : List Int), l.Nodup -> n ∈ l -> (∀ m ∈ l, m ≠ n -> f' m = f m) -> (l.map f').sum = (l.map f).sum + (f' n - f n)
 | [], _, hm, _ => by cases hm
 | a :: l, hn, hm, he => by
  rw [List.nodup_cons] at hn;rw [List.map_cons, List.map_cons, List.sum_cons, List.sum_cons];rcases List.mem_cons.1 hm with e | e
  ·subst e
   have h2 : l.map f' = l.map f := List.map_congr_left fun m hm' => he m (List.mem_cons_of_mem _ hm') (by rintro rfl; exact hn.1 hm')
   rw [h2]; omega
  ·have ih := sum_upd n f f' l hn.2 e (fun m hm' => he m (List.mem_cons_of_mem _ hm'))
   rw [ih, he a (List.mem_cons_self ..) (by rintro rfl; exact hn.1 e)]; omega
def updZ {α : Type} (f : Int -> α) (n : Int) (v : α) : Int -> α := fun m => if m = n then v else f m
theorem updZ_same {α : Type} (f : Int -> α) (n : Int) (v : α) : updZ f n v n = v := if_pos rfl
theorem updZ_other {α : Type} (f : Int -> α) (n m : Int) (v : α) (h : m ≠ n) : updZ f n v m = f m := if_neg h
def Gh.table (g : Gh) (n : Int) (P : Pool) (r t : Int) (N F : Nat -> Int) (Y : Nat -> Bool) : Gh := { g with P := P, root := updZ g.root n r, tabs := updZ g.tabs n t, N := updZ g.N n N, F := updZ g.F n F, Y := updZ g.Y n Y }
theorem Gh.table_alike (g : Gh) (n : Int) (P : Pool) (r t : Int) (N F : Nat -> Int) (Y : Nat -> Bool) {m : Int} (h : m ≠ n) : Alike1 g (g.table n P r t N F Y) m :=
 ⟨rfl, rfl, rfl, rfl, updZ_other _ _ _ _ h, updZ_other _ _ _ _ h⟩
structure Same (g g' : Gh) : Prop where
 fr : g'.fr = g.fr
 flush : g'.flush = g.flush
 last : g'.last = g.last
 bl : g'.bl = g.bl
 tl : g'.tl = g.tl
theorem Same.refl (g : Gh) : Same g g := ⟨rfl, rfl, rfl, rfl, rfl⟩
theorem Same.trans {a b c : Gh} (h : Same a b) (k : Same b c) : Same a c := ⟨k.fr.trans h.fr, k.flush.trans h.flush, k.last.trans h.last, k.bl.trans h.bl, k.tl.trans h.tl⟩
section
variable {w w' : World} {g g' : Gh} {K : Km} {o : Ob}
theorem Km.set_self (h : K.obj o.name = some o) : K.set o = K := by
 show { K with obj := fun n => if n = o.name then some o else K.obj n } = K
 have : (fun n => if n = o.name then some o else K.obj n) = K.obj := by
  funext n; by_cases e : n = o.name
  ·rw [if_pos e, e, h]
  ·rw [if_neg e]
 rw [this]
theorem Ob.wTh_self : o.wTh o.th = o := rfl
structure TabSt (g : Gh) (K : Km) (o : Ob) : Prop where
 tab : Tab g.P (g.root o.name) o.name (g.N o.name) (g.F o.name) (g.Y o.name)
 cnt : g.tabs o.name = (cntN (g.N o.name) 585 : Nat)
 le : g.tabs o.name <= 8
 lead : ∀ p, p < 4096 -> g.F o.name p ≠ 0 -> Leads g K o p (g.F o.name p) (g.Y o.name p)
theorem Inv.table (hI : Inv g K) (ho : K.obj o.name = some o) (hk : o.kind = 3) {P' : Pool} {r t : Int} {N F : Nat -> Int} {Y : Nat -> Bool} (hmv : SegMv g.P P' o.name)
  (hT : Tab P' r o.name N F Y) (hc : t = (cntN N 585 : Nat)) (h8 : t <= 8) (hl : ∀ p, p < 4096 -> F p ≠ 0 -> Leads g K o p (F p) (Y p)) (hleft : (P'.left : Int) + t = g.P.left + g.tabs o.name) : Inv (g.table o.name P' r t N F Y) K := by
 have hne : ∀ n a, K.obj n = some a -> a.kind ≠ 3 -> n ≠ o.name := fun n a e q e2 => by rw [e2, ho] at e; cases e; exact q hk
 refine ⟨hI.own, hI.name, hI.cont, fun n a e ek => ?_, hI.noseg, fun n a e ek => ?_, hI.tlb, hI.tn, hI.ths, ⟨hI.room.1, ?_⟩, fun n h0 e => ?_⟩
 ·have hs := hI.seg n a e ek
  have hn := hne n a e (by omega);have hnm := hI.name n a e;have hn2 : a.name ≠ o.name := by rw [hnm]; exact hn
  exact ⟨hmv.segIn hs.inn hn2, hs.len, hs.p16, fun j hj => by rw [hs.data j hj]; exact (hmv.segD hs.inn hn2 j (by rw [hs.len]; exact hj)).symm⟩
 ·have hnm := hI.name n a e
  by_cases q : n = o.name
  ·have ea : a = o := by rw [q, ho] at e; cases e; rfl
   subst ea;refine .inr ⟨?_, ?_, ?_, ?_⟩
   ·show Tab P' (updZ g.root _ r _) _ (updZ g.N _ N _) (updZ g.F _ F _) (updZ g.Y _ Y _)
    rw [updZ_same, updZ_same, updZ_same, updZ_same]; exact hT
   ·show updZ g.tabs _ t _ = (cntN (updZ g.N _ N _) 585 : Nat)
    rw [updZ_same, updZ_same]; exact hc
   ·show updZ g.tabs _ t _ <= 8
    rw [updZ_same]; exact h8
   ·intro p hp
    show updZ g.F _ F _ p ≠ 0 -> Leads _ _ _ _ (updZ g.F _ F _ p) (updZ g.Y _ Y _ p)
    rw [updZ_same, updZ_same]; exact hl p hp
  ·have hq : a.name ≠ o.name := by rw [hnm]; exact q
   have := hI.thr n a e ek;unfold ThrOk at this ⊢;show (updZ g.root _ r _ = 0 /\ updZ g.tabs _ t _ = 0) \/ (Tab P' (updZ g.root _ r _) _ (updZ g.N _ N _) (updZ g.F _ F _) (updZ g.Y _ Y _) /\ updZ g.tabs _ t _ = (cntN (updZ g.N _ N _) 585 : Nat) /\ updZ g.tabs _ t _ <= 8 /\ ∀ p, p < 4096 -> updZ g.F _ F _ p ≠ 0 -> Leads _ _ _ _ (updZ g.F _ F _ p) (updZ g.Y _ Y _ p))
   rw [updZ_other _ _ _ _ hq, updZ_other _ _ _ _ hq, updZ_other _ _ _ _ hq, updZ_other _ _ _ _ hq, updZ_other _ _ _ _ hq];rcases this with e1 | ⟨e1, e2, e3, e4⟩
   ·exact .inl e1
   ·exact .inr ⟨e1.mv hmv hq, e2, e3, e4⟩
 ·have hm : o.name ∈ g.ths := (hI.ths.2 o.name).2 ⟨o, ho, hk⟩
  have hs : slack (g.table o.name P' r t N F Y) = slack g + ((8 - t) - (8 - g.tabs o.name)) := by
   have := sum_upd o.name (fun n => 8 - g.tabs n) (fun n => 8 - updZ g.tabs o.name t n) g.ths hI.ths.1 hm (fun m _ q => by show 8 - updZ g.tabs o.name t m = 8 - g.tabs m; rw [updZ_other _ _ _ _ q]);rw [updZ_same] at this;exact this
  rw [hs];have := hI.room.2;show (P'.left : Int) = K.room + _
  omega
 ·have hn : n ≠ o.name := by rintro rfl; rw [ho] at e; cases e
  show countTo P'.O n P'.n = 0
  rw [hmv.n, hmv.cnt n h0 hn]; exact hI.cnt0 n h0 e
theorem KIn.pooled (h : KIn w g K) (k : Kept (PS g.pb g.db g.ob) w w') {P' : Pool} (hP : PoolAt w' g.pb g.db g.ob P') : KIn w' { g with P := P' } K /\ Ext g { g with P := P' } w w' := by
 refine ⟨h.setPool k (ps_mild h.pool) (fun b q _ => .inr q) hP, Ext.wrote ⟨rfl, rfl, rfl, rfl, rfl, rfl, rfl, fun _ _ e => e⟩ k (fun b q _ => ?_) (fun _ _ e => e) (fun _ _ => ⟨rfl, rfl⟩)⟩;rcases q with e | e | e
 ·rw [e]; exact ⟨_, h.tags.pb⟩
 ·rw [e]; exact ⟨_, h.tags.db⟩
 ·rw [e]; exact ⟨_, h.tags.ob⟩
theorem KIn.rooted (h : KIn w g K) (ho : K.obj o.name = some o) (hk : o.kind = 3) {x : Ts} (hT : ThAt w g o.name o.th x) (k : Kept (· = g.tl o.name) w w') {r t : Int} {N F : Nat -> Int} {Y : Nat -> Bool}
  (hB : Blk w' (g.tl o.name) (thC o.th x r t) 52) : KIn w' (g.table o.name g.P r t N F Y) K /\ Ext g (g.table o.name g.P r t N F Y) w w' := by
 have hm : Mild w (· = g.tl o.name) := Mild.of hT.blk (by decide);have hr := hT.rows.kept k hm (A' := g.A) (fun c q _ i hi e => by rw [q, hT.tag] at e; cases e; omega) (fun _ _ e => e)
 have := h.thr (g' := g.table o.name g.P r t N F Y) ho hk k hm (fun b q _ => ⟨10, Nat.le_refl _, by rw [q]; exact hT.tag⟩) ⟨rfl, rfl, rfl, rfl, rfl, rfl, rfl, fun _ _ e => e⟩ (fun n q => g.table_alike o.name g.P r t N F Y q) ⟨rfl, rfl, rfl, rfl⟩ ⟨rfl, rfl, rfl⟩ rfl (fun _ _ e => e) (fun b hb => h.nrm b (Nat.le_trans k.size hb)) (t := o.th) (x := x)
  (by show Blk w' (g.tl o.name) (thC o.th x (updZ g.root o.name r o.name) (updZ g.tabs o.name t o.name)) _; rw [updZ_same, updZ_same]; exact hB) hr
 rw [Ob.wTh_self, Km.set_self ho] at this;exact this
end
attribute [local irreducible] World.setCell World.alloc World.drew World.setRow Calls Code.wp
section
variable {w : World} {g : Gh} {K : Km}
theorem KIn.pl (h : KIn w g K) {i : Nat} (hi : i < K.nc) : ∃ cs, Blk w g.cb cs 162 /\ In cs (i * 27 + 11) (g.tlb i).list := by
 obtain ⟨htag, cs, hB, hin⟩ := h.cores.ex (by omega)
 exact ⟨cs, hB, (hin i hi).sub 11 _ (fun k hk => match k, hk with
  | 0, _ => rfl
  | 1, _ => rfl
  | 2, _ => rfl
  | 3, _ => rfl
  | 4, _ => rfl
  | 5, _ => rfl
  | 6, _ => rfl
  | 7, _ => rfl
  | 8, _ => rfl
  | 9, _ => rfl
  | 10, _ => rfl
  | 11, _ => rfl
  | 12, _ => rfl)⟩
end
end Go.Proofs.YtiadbhiadhgjkaaGreatDoor
namespace Go.Proofs.YtiadbhiadhgjkaaGreatDoor
open Go.RowKit
attribute [local irreducible] World.setCell World.alloc World.drew World.setRow Calls Code.wp
attribute [local go_sem] Oper.semAt_some
theorem bothF_same (d : Nat) : ∀ (l : List (Nat × Nat)) (g : Nat), l.length <= g -> bothF d d g l l = l.map fun p => (p.1, p.2, p.2)
 | [], g, _ => by cases g <;> rfl
 | (c, x) :: r, g, h => by
  obtain ⟨k, rfl⟩ : ∃ k, g = k + 1 := ⟨g - 1, by simp at h; omega⟩;show (if c < c then _ else if c < c then _ else (c, x, x) :: bothF d d k r r) = _
  rw [if_neg (Nat.lt_irrefl c), if_neg (Nat.lt_irrefl c), bothF_same d r k (by simp at h; omega)];rfl
theorem merge_self (f : Nat -> Nat -> Nat) (l : Lab) : (Lab.merge f l l).ps = l.ps.filterMap fun p => if f p.2 p.2 = f l.d l.d then none else some (p.1, f p.2 p.2) := by
 show (bothL l l).filterMap _ = _
 unfold bothL;rw [bothF_same _ _ _ (Nat.le_add_left _ _), List.filterMap_map];rfl
theorem merge_self_ok {f : Nat -> Nat -> Nat} {l : Lab} (h : LabOk l) (hf : ∀ x, x < 1000 -> f x x < 1000) : LabOk (Lab.merge f l l) := by
 refine ⟨hf _ h.d, ?_, fun p hp => ?_⟩
 ·rw [merge_self]; exact Nat.le_trans (List.length_filterMap_le _ _) h.n
 ·rw [merge_self, List.mem_filterMap] at hp
  obtain ⟨q, hq, e⟩ := hp;split at e
  ·cases e
  ·cases e; exact ⟨(h.ps q hq).1, hf _ (h.ps q hq).2⟩
theorem raise_ok {l : Lab} (h : LabOk l) : LabOk l.raise := merge_self_ok h (fun x hx => by show (if x = 0 then 5 else x) < 1000; split <;> omega)
theorem raise_any (l : Lab) (v : Value) (w : World) (hok : LabOk l) (h : LabIn w v l) :
  Calls Tryz.prog 138 #[v] w fun e w' => ∃ v, e = .returned v /\ LabIn w' v l.raise /\ Below w.heap.size w w' := by
 obtain ⟨s, rfl, h1⟩ := h;obtain ⟨a, c, rfl, -, -⟩ := RowAt.form h1;obtain ⟨h0, hh0⟩ : ∃ h0, h0 = w.heap.size := ⟨_, rfl⟩;obtain ⟨w2, hw2⟩ : ∃ w2 : World, w2 = (w.alloc (.cells #[.int .i64 (l.d : Nat), .slice a l.ps.length c] 43)).alloc (.cells #[.int .i64 0, .slice none 0 0] 43) := ⟨_, rfl⟩;have hB2 : Below w.heap.size w w2 := by rw [hw2]; exact ((Below.refl _ w).alloc (Nat.le_refl _) _).alloc (by simp) _
 have hL : Blk w2 h0 #[.int .i64 (l.d : Nat), .slice a l.ps.length c] 43 := by rw [hw2, hh0]; exact (Blk.new _ _ _).alloc _
 have hRb : Blk w2 (h0 + 1) #[.int .i64 0, .slice none 0 0] 43 := by
  rw [hw2, hh0];have := Blk.new (w.alloc (.cells #[.int .i64 (l.d : Nat), .slice a l.ps.length c] 43)) #[.int .i64 0, .slice none 0 0] 43;rw [World.size_alloc] at this; exact this
 have Hm := Lib.hid (turned_any l 0 5 (.agg #[.int .i64 (l.d : Nat), .slice a l.ps.length c]) w2 hok ⟨_, rfl, RowAt.below h1 hB2 (Nat.le_refl _)⟩);have hraise : Lab.merge (turnF 0 5) l l = l.raise := rfl;rw [hraise] at Hm;obtain ⟨L, hLr⟩ : ∃ L, l.raise = L := ⟨_, rfl⟩;rw [hLr] at Hm ⊢;have HR := Lib.hid hRb;have HB2 := Lib.hid hB2;have HW2 := Lib.hid hw2; have Hh0 := Lib.hid hh0;have cl0 : w2.cell? ⟨h0, 0, none⟩ = some (.int .i64 (l.d : Nat)) := by rw [hL.cell]; rfl
 have cl1 : w2.cell? ⟨h0, 1, none⟩ = some (.slice a l.ps.length c) := by rw [hL.cell]; rfl
 clear h1 hw2 hh0 hB2 hL hRb hraise hLr;go_enter Tryz.func138, Tryz.ntmps138
 go_upto_region 1 with fail
 rw [<- HW2.out, <- Hh0.out];go_wp2_with fail
 refine Hm.out.mono ?_;rintro e W3 ⟨v, rfl, hv, hb⟩;obtain ⟨s, rfl, hs⟩ := hv;obtain ⟨av, cv, rfl, -, -⟩ := RowAt.form hs;have hr3 := Blk.below HR.out hb HR.out.lt;have hcr := hr3.cell;have hfr := hr3.free
 have HRf := Lib.hid (show LabIn ((W3.setCell ⟨h0 + 1, 0, none⟩ (.int .i64 (L.d : Nat))).setCell ⟨h0 + 1, 1, none⟩ (.slice av L.ps.length cv)) (.agg #[.int .i64 (L.d : Nat), .slice av L.ps.length cv]) L from
  ⟨_, rfl, RowAt.kept hs (((Kept.refl (· = h0 + 1) W3).setIn (h0 + 1) 0 _ rfl).setIn (h0 + 1) 1 _ rfl) (fun b cs fz e hh => by
   unfold Blk at hr3;rw [e, hr3] at hh;simp at hh)⟩)
 have HX : Hid (Blk ((W3.setCell ⟨h0 + 1, 0, none⟩ (.int .i64 (L.d : Nat))).setCell ⟨h0 + 1, 1, none⟩ (.slice av L.ps.length cv)) (h0 + 1) #[.int .i64 (L.d : Nat), .slice av L.ps.length cv] 43) := ((hr3.set 0 _).set 1 _).cells rfl;have HB : Hid (Below w.heap.size w ((W3.setCell ⟨h0 + 1, 0, none⟩ (.int .i64 (L.d : Nat))).setCell ⟨h0 + 1, 1, none⟩ (.slice av L.ps.length cv))) := ((bel_from HB2.out hb).setCell (p := ⟨h0 + 1, 0, none⟩) (by have := Hh0.out; show w.heap.size <= h0 + 1; omega) _).setCell (p := ⟨h0 + 1, 1, none⟩) (by have := Hh0.out; show w.heap.size <= h0 + 1; omega) _;clear hs hb hr3 cl0 cl1;go_wp2_with fail
 refine bodyPost_ret (results_cell_row rfl _ _ (h0 + 1) _ _ (0, 0) _ rfl HX.out Tryz.underlying43 rfl (by kernel_rfl)) rfl ?_;exact ⟨_, rfl, HRf.out, HB.out⟩
structure TwoLab (w w2 : World) (h0 : Nat) (t o : Lab) (ta oa : Option Addr) (tc oc : Nat) : Prop where
 bel : Below w.heap.size w w2
 tb : Blk w2 h0 #[.int .i64 (t.d : Nat), .slice ta t.ps.length tc] 43
 ob : Blk w2 (h0 + 1) #[.int .i64 (o.d : Nat), .slice oa o.ps.length oc] 43
 tl : LabIn w2 (.agg #[.int .i64 (t.d : Nat), .slice ta t.ps.length tc]) t
 ol : LabIn w2 (.agg #[.int .i64 (o.d : Nat), .slice oa o.ps.length oc]) o
theorem two_lab (w : World) (t o : Lab) (ta oa : Option Addr) (tc oc : Nat) (t1 : PairsIn w (.slice ta t.ps.length tc) t.ps) (o1 : PairsIn w (.slice oa o.ps.length oc) o.ps) :
  TwoLab w ((w.alloc (.cells #[.int .i64 (t.d : Nat), .slice ta t.ps.length tc] 43)).alloc (.cells #[.int .i64 (o.d : Nat), .slice oa o.ps.length oc] 43)) w.heap.size t o ta oa tc oc := by
 have hB : Below w.heap.size w ((w.alloc (.cells #[.int .i64 (t.d : Nat), .slice ta t.ps.length tc] 43)).alloc (.cells #[.int .i64 (o.d : Nat), .slice oa o.ps.length oc] 43)) := ((Below.refl _ w).alloc (Nat.le_refl _) _).alloc (by simp) _;refine ⟨hB, (Blk.new _ _ _).alloc _, ?_, ⟨_, rfl, RowAt.below t1 hB (Nat.le_refl _)⟩, ⟨_, rfl, RowAt.below o1 hB (Nat.le_refl _)⟩⟩;have := Blk.new (w.alloc (.cells #[.int .i64 (t.d : Nat), .slice ta t.ps.length tc] 43)) #[.int .i64 (o.d : Nat), .slice oa o.ps.length oc] 43;rw [World.size_alloc] at this; exact this
theorem TwoLab.cells {w w2 : World} {h0 : Nat} {t o : Lab} {ta oa : Option Addr} {tc oc : Nat} (h : TwoLab w w2 h0 t o ta oa tc oc) {w3 : World} (k : Below w2.heap.size w2 w3) :
  (w3.cell? ⟨h0, 0, none⟩ = some (.int .i64 (t.d : Nat)) /\ w3.cell? ⟨h0, 1, none⟩ = some (.slice ta t.ps.length tc)) /\ w3.cell? ⟨h0 + 1, 0, none⟩ = some (.int .i64 (o.d : Nat)) /\ w3.cell? ⟨h0 + 1, 1, none⟩ = some (.slice oa o.ps.length oc) := by
 have h1 := h.tb.below k h.tb.lt;have h2 := h.ob.below k h.ob.lt;exact ⟨⟨(h1.cell 0).trans rfl, (h1.cell 1).trans rfl⟩, (h2.cell 0).trans rfl, (h2.cell 1).trans rfl⟩
theorem reads_any (t o : Lab) (vt vo : Value) (w : World) (ht : LabOk t) (ho : LabOk o) (hT : LabIn w vt t) (hO : LabIn w vo o) :
  Calls Tryz.prog 116 #[vt, vo] w fun e w' => e = .returned (.bool (readsL t o)) /\ Below w.heap.size w w' := by
 obtain ⟨st, rfl, t1⟩ := hT;obtain ⟨so, rfl, o1⟩ := hO;obtain ⟨ta, tc, rfl, -, -⟩ := RowAt.form t1;obtain ⟨oa, oc, rfl, -, -⟩ := RowAt.form o1;have H2 := two_lab w t o ta oa tc oc t1 o1;generalize hw2 : (w.alloc (.cells #[.int .i64 (t.d : Nat), .slice ta t.ps.length tc] 43)).alloc (.cells #[.int .i64 (o.d : Nat), .slice oa o.ps.length oc] 43) = w2 at H2;generalize hh0 : w.heap.size = h0 at H2;obtain ⟨⟨a0, a1⟩, b0, b1⟩ := H2.cells (Below.refl _ w2);have HC := Lib.hid (fun w3 k => H2.cells (w3 := w3) k)
 have Hra : Hid (∀ wz, wz = w2.drew -> Calls Tryz.prog 138 #[.agg #[.int .i64 (t.d : Nat), .slice ta t.ps.length tc]] wz fun e w' => ∃ v, e = .returned v /\ (LabIn w' v t.raise /\ Below w2.heap.size w2 w')) := fun wz ez => by
  rw [ez];refine (raise_any t _ w2.drew ht (H2.tl.below ((Below.refl _ w2).drew) (Nat.le_refl _))).mono ?_;rintro e w' ⟨v, rfl, h1, h2⟩;rw [World.size_drew] at h2;exact ⟨v, rfl, h1, (Below.refl _ w2).drew.trans h2⟩
 have Hle : Hid (∀ v w3, LabIn w3 v t.raise -> Below w2.heap.size w2 w3 -> Calls Tryz.prog 26 #[.agg #[.int .i64 (o.d : Nat), .slice oa o.ps.length oc], v] w3 fun e w' => ∃ u, e = .returned u /\ (u = .bool (readsL t o) /\ Below w2.heap.size w2 w')) := fun v w3 h1 h2 => by
  refine (leq_any o t.raise _ v w3 (H2.ol.below h2 (Nat.le_refl _)) h1 ⟨ho.n, (raise_ok ht).n⟩).mono ?_;rintro e w' ⟨rfl, h3⟩;exact ⟨_, rfl, rfl, bel_from h2 h3⟩
 have HB := Lib.hid H2.bel;have HW := Lib.hid hw2; have Hh := Lib.hid hh0;clear t1 o1 H2 hw2 hh0 ht ho;go_enter Tryz.func116, Tryz.ntmps116
 go_upto_region 1 with fail
 rw [HW.out, Hh.out]
 go_region_law (first
  | (refine step_call (by rfl) (ex_call (vs := #[.agg #[.int .i64 (t.d : Nat), .slice ta t.ps.length tc]]) (by simp [Act.eval]) (enters_fn Tryz.func138 (by kernel_rfl) rfl)) (Hra.out _ (by first | rfl | exact drew_eq w2)) ?_; rintro v w3 ⟨hv, hb⟩; obtain ⟨⟨c0, c1⟩, d0, d1⟩ := HC.out w3 hb)
  | (refine step_call (by rfl) (ex_call (vs := #[.agg #[.int .i64 (o.d : Nat), .slice oa o.ps.length oc], v]) (by simp [Act.eval]) (enters_fn Tryz.func26 (by kernel_rfl) rfl)) (Hle.out v _ hv hb) ?_; rintro u w4 ⟨rfl, hb4⟩))
 all_goals
  go_wp2_with fail
  go_ret;have h2 := HB.out;have h3 := h2.size;rw [Hh.out] at h2 h3;exact ⟨rfl, h2.trans (hb4.mono h3)⟩
theorem changes_any (t o : Lab) (vt vo : Value) (w : World) (ht : LabOk t) (ho : LabOk o) (hT : LabIn w vt t) (hO : LabIn w vo o) :
  Calls Tryz.prog 112 #[vt, vo] w fun e w' => e = .returned (.bool (changesL t o)) /\ Below w.heap.size w w' := by
 obtain ⟨st, rfl, t1⟩ := hT;obtain ⟨so, rfl, o1⟩ := hO;obtain ⟨ta, tc, rfl, -, -⟩ := RowAt.form t1;obtain ⟨oa, oc, rfl, -, -⟩ := RowAt.form o1;have H2 := two_lab w t o ta oa tc oc t1 o1;generalize hw2 : (w.alloc (.cells #[.int .i64 (t.d : Nat), .slice ta t.ps.length tc] 43)).alloc (.cells #[.int .i64 (o.d : Nat), .slice oa o.ps.length oc] 43) = w2 at H2;generalize hh0 : w.heap.size = h0 at H2;obtain ⟨⟨a0, a1⟩, b0, b1⟩ := H2.cells (Below.refl _ w2);have HC := Lib.hid (fun w3 k => H2.cells (w3 := w3) k);have Hle := Lib.hid (leq_any t o _ _ w2 H2.tl H2.ol ⟨ht.n, ho.n⟩)
 have Hre : Hid (∀ w3, Below w2.heap.size w2 w3 -> Calls Tryz.prog 116 #[.agg #[.int .i64 (t.d : Nat), .slice ta t.ps.length tc], .agg #[.int .i64 (o.d : Nat), .slice oa o.ps.length oc]] w3 fun e w' => e = .returned (.bool (readsL t o)) /\ Below w3.heap.size w3 w') := fun w3 k =>
  reads_any t o _ _ w3 ht ho (H2.tl.below k (Nat.le_refl _)) (H2.ol.below k (Nat.le_refl _))
 have HB := Lib.hid H2.bel;have HW := Lib.hid hw2; have Hh := Lib.hid hh0;have Hch : Hid (changesL t o = (t.leq o && readsL t o)) := Lib.hid rfl;clear t1 o1 H2 hw2 hh0 ht ho;generalize t.leq o = q1 at Hle Hch;generalize readsL t o = q2 at Hre Hch;go_enter Tryz.func112, Tryz.ntmps112
 go_upto_region 1 with fail
 rw [HW.out, Hh.out];go_wp2_with fail
 refine Hle.out.mono ?_;rintro e w3 ⟨rfl, hb⟩;obtain ⟨⟨c0, c1⟩, d0, d1⟩ := HC.out w3 hb
 cases q1
 ·go_wp2_with fail
  go_ret;have h2 := HB.out;have h3 := h2.size;rw [Hh.out] at h2 h3;exact ⟨by rw [Hch.out]; rfl, h2.trans (hb.mono h3)⟩
 ·have HRe := Lib.hid (Hre.out w3 hb)
  go_wp2_with fail
  refine HRe.out.mono ?_;rintro e w4 ⟨rfl, hb4⟩;go_wp2_with fail
  go_ret;have h2 := HB.out;have h3 := h2.size;rw [Hh.out] at h2 h3;exact ⟨by rw [Hch.out]; rfl, (h2.trans (hb.mono h3)).trans (hb4.mono (Nat.le_trans h3 hb.size))⟩
end Go.Proofs.YtiadbhiadhgjkaaGreatDoor
namespace Go.Proofs.YtiadbhiadhgjkaaGreatDoor
open Go.RowKit
attribute [local irreducible] World.setCell World.alloc World.drew World.setRow Calls Code.wp
def MapsOk (K : Km) : Prop := ∀ n o, K.obj n = some o -> ∀ m ∈ o.maps, m.fits = true
theorem fits_spec {m : WMap} (h : m.fits = true) : (1 <= m.n /\ m.n <= 16) /\ (0 <= m.at_ /\ m.at_ + m.n <= 4096) /\ (0 <= m.from_ /\ m.from_ + m.n <= 16) /\ m.seg ≠ 0 := by
 unfold WMap.fits at h;simp only [decide_eq_true_eq] at h;exact ⟨⟨h.1, h.2.1⟩, ⟨h.2.2.1, by have := h.2.2.2.1; omega⟩, ⟨h.2.2.2.2.1, by have := h.2.2.2.2.2.1; omega⟩, h.2.2.2.2.2.2⟩
theorem map_cells {w : World} {a : Option Addr} {c : Nat} {l : List WMap} (h : RowAt w 125 (.slice a l.length c) l.length (l.flatMap mapV)) {k : Nat} {m : WMap} (hk : l[k]? = some m) :
  ∃ b, a = some ⟨b, 0, none⟩ /\ b < w.heap.size /\ w.cell? ⟨b, k * 5, none⟩ = some (.int .i64 m.at_) /\ w.cell? ⟨b, k * 5 + 1, none⟩ = some (.int .u64 m.seg) /\ w.cell? ⟨b, k * 5 + 2, none⟩ = some (.int .i64 m.from_) /\ w.cell? ⟨b, k * 5 + 3, none⟩ = some (.int .i64 m.n) /\ w.cell? ⟨b, k * 5 + 4, none⟩ = some (.bool m.wr) := by
 have hlt := (List.getElem?_eq_some_iff.1 hk).1;obtain ⟨b, e, hb, hc⟩ := RowAt.cells h (by omega);have hf := fun i (hi : i < 5) => flat_at mapV 5 (fun _ => rfl) l k m hk i hi
 refine ⟨b, e, hb, ?_, hc _ _ ((hf 1 (by omega)).trans rfl), hc _ _ ((hf 2 (by omega)).trans rfl), hc _ _ ((hf 3 (by omega)).trans rfl), hc _ _ ((hf 4 (by omega)).trans rfl)⟩;have := hc _ _ ((hf 0 (by omega)).trans rfl);exact this
def findV (l : List WMap) (p : Int) : Value := match findMap l p with
 | none => .tuple #[.agg #[.int .i64 0, .int .u64 0, .int .i64 0, .int .i64 0, .bool false], .bool false]
 | some m => .tuple #[.agg #[.int .i64 m.at_, .int .u64 m.seg, .int .i64 m.from_, .int .i64 m.n, .bool m.wr], .bool true]
theorem findMap_here {l : List WMap} {p : Int} {k : Nat} {m : WMap} (hk : l[k]? = some m) (h : m.at_ <= p /\ p < m.at_ + m.n) (hn : ∀ j, j < k -> ∀ x, l[j]? = some x -> ¬ (x.at_ <= p /\ p < x.at_ + x.n)) : findMap l p = some m := by
 induction l generalizing k with
 | nil => cases hk
 | cons y r ih =>
  unfold findMap at ih ⊢
  cases k with
  | zero =>
   simp only [List.getElem?_cons_zero, Option.some.injEq] at hk;subst hk;rw [List.find?_cons_of_pos]; simp [h.1, h.2]
  | succ k =>
   have h0 := hn 0 (by omega) y (by simp);rw [List.find?_cons_of_neg (by simp only [Bool.and_eq_true, decide_eq_true_eq]; exact h0)];exact ih (by simpa using hk) (fun j hj x hx => hn (j + 1) (by omega) x (by simpa using hx))
theorem findMap_none {l : List WMap} {p : Int} (hn : ∀ j, j < l.length -> ∀ x, l[j]? = some x -> ¬ (x.at_ <= p /\ p < x.at_ + x.n)) : findMap l p = none := by
 unfold findMap;rw [List.find?_eq_none];intro x hx;obtain ⟨j, hj, e⟩ := List.mem_iff_getElem.1 hx;have := hn j hj x (by rw [List.getElem?_eq_getElem hj, e]);simpa only [Bool.and_eq_true, decide_eq_true_eq] using this
theorem findMap_some {l : List WMap} {p : Int} {m : WMap} (h : findMap l p = some m) : m ∈ l /\ m.at_ <= p /\ p < m.at_ + m.n := by
 unfold findMap at h;have h1 := List.mem_of_find?_eq_some h;have h2 := List.find?_some h;simp only [Bool.and_eq_true, decide_eq_true_eq] at h2;exact ⟨h1, h2⟩
theorem find_any (l : List WMap) (p : Int) (v : Value) (w : World) (h : RowAt w 125 v l.length (l.flatMap mapV)) (hf : ∀ m ∈ l, m.fits = true) (hl : l.length <= 1000000) :
  Calls Tryz.prog 278 #[v, .int .i64 p] w fun e w' => e = .returned (findV l p) /\ Below w.heap.size w w' := by
 obtain ⟨a, c, rfl, -, -⟩ := RowAt.form h;have HR := Lib.hid h; have HF := Lib.hid hf;obtain ⟨h0, hh0⟩ : ∃ h0, h0 = w.heap.size := ⟨_, rfl⟩;have Hh := Lib.hid hh0;have HT : Hid (Blk (w.alloc (.cells #[.int .i64 0, .int .u64 0, .int .i64 0, .int .i64 0, .bool false] 125)) h0 #[.int .i64 0, .int .u64 0, .int .i64 0, .int .i64 0, .bool false] 125) := by rw [hh0]; exact Lib.hid (Blk.new _ _ _)
 have HB : Hid (Below h0 w (w.alloc (.cells #[.int .i64 0, .int .u64 0, .int .i64 0, .int .i64 0, .bool false] 125))) := by rw [hh0]; exact Lib.hid ((Below.refl _ w).alloc (Nat.le_refl _) _)
 clear h hf;go_enter Tryz.func278, Tryz.ntmps278
 go_wp2_with fail
 rw [<- hh0];clear hh0;go_loopg [7, 10] l.length (fun g m i wx => ∃ k : Nat, k + g = l.length /\ i = .int .i64 k /\ (∀ j, j < k -> ∀ x, l[j]? = some x -> ¬ (x.at_ <= p /\ p < x.at_ + x.n)) /\ Below h0 w wx /\ Blk wx h0 #[.int .i64 0, .int .u64 0, .int .i64 0, .int .i64 0, .bool false] 125)
 case atStart => exact ⟨0, by omega, rfl, fun j hj => absurd hj (by omega), HB.out, HT.out⟩
 case round =>
  obtain ⟨k, hg, rfl, hn, hb, hT⟩ := hrel;have HN := Lib.hid hn; have Hb := Lib.hid hb; have HT2 := Lib.hid hT;have hlt := hT.lt;have hfr := hT.free;by_cases hk : k < l.length
  ·have hx : l[k]? = some l[k] := List.getElem?_eq_getElem hk
   obtain ⟨m, hm⟩ : ∃ m, l[k] = m := ⟨_, rfl⟩;rw [hm] at hx;have HX := Lib.hid hx;have hfm := fits_spec (HF.out m (List.mem_of_getElem? hx));obtain ⟨b, rfl, hbl, m0, m1, m2, m3, m4⟩ := map_cells HR.out hx;have hbw : b < h0 := by rw [Hh.out]; exact hbl
   have r0 := (hb.cell (p := ⟨b, k * 5, none⟩) hbw).trans m0;have r1 := (hb.cell (p := ⟨b, k * 5 + 1, none⟩) hbw).trans m1;have r2 := (hb.cell (p := ⟨b, k * 5 + 2, none⟩) hbw).trans m2;have r3 := (hb.cell (p := ⟨b, k * 5 + 3, none⟩) hbw).trans m3;have r4 := (hb.cell (p := ⟨b, k * 5 + 4, none⟩) hbw).trans m4;have hki : (k : Int) < (l.length : Int) := by omega
   have hsum : IntKind.i64.wrap (m.at_ + m.n) = m.at_ + m.n := IntWalk.i64_in _ (by omega);have hk1 : IntKind.i64.wrap ((k : Int) + 1) = ((k + 1 : Nat) : Int) := IntWalk.i64_in _ (by omega);clear hn hb m0 m1 m2 m3 m4 hm hx hT;have HT3 := HT2.out.alloc (.cells #[.int .i64 m.at_, .int .u64 m.seg, .int .i64 m.from_, .int .i64 m.n, .bool m.wr] 125);have hTc := HT3.cell;have hTf := HT3.free;have hTw := HT2.out.cell;have hne : ¬ h0 = wr.heap.size := by omega
   have Hb3 : Hid (Below h0 w (wr.alloc (.cells #[.int .i64 m.at_, .int .u64 m.seg, .int .i64 m.from_, .int .i64 m.n, .bool m.wr] 125))) := Lib.hid (Hb.out.alloc (by have := Hb.out.size; rw [<- Hh.out] at this; exact this) _);have HTn := Lib.hid HT3;clear HT3;by_cases q : m.at_ <= p /\ p < m.at_ + m.n
   ·have Q : Hid (findV l p = .tuple #[.agg #[.int .i64 m.at_, .int .u64 m.seg, .int .i64 m.from_, .int .i64 m.n, .bool m.wr], .bool true]) := by
     have := findMap_here HX.out q HN.out;unfold Hid findV; rw [this]
    have q1 : decide (m.at_ <= p) = true := decide_eq_true q.1;have q2 : decide (p < m.at_ + m.n) = true := decide_eq_true q.2;clear hfm q
    have HX5 : Hid (Blk ((((((wr.setCell ⟨h0, 0, none⟩ (.int .i64 m.at_)).setCell ⟨h0, 1, none⟩ (.int .u64 m.seg)).setCell ⟨h0, 2, none⟩ (.int .i64 m.from_)).setCell ⟨h0, 3, none⟩ (.int .i64 m.n)).setCell ⟨h0, 4, none⟩ (.bool m.wr)).alloc (.cells #[.int .i64 m.at_, .int .u64 m.seg, .int .i64 m.from_, .int .i64 m.n, .bool m.wr] 125)) h0 #[.int .i64 m.at_, .int .u64 m.seg, .int .i64 m.from_, .int .i64 m.n, .bool m.wr] 125) :=
     Lib.hid (((((((HT2.out.set 0 _).set 1 _).set 2 _).set 3 _).set 4 _).alloc _).cells (by simp only [List.setIfInBounds_toArray, List.set_cons_zero, List.set_cons_succ]))
    have HB5 : Hid (Below h0 w ((((((wr.setCell ⟨h0, 0, none⟩ (.int .i64 m.at_)).setCell ⟨h0, 1, none⟩ (.int .u64 m.seg)).setCell ⟨h0, 2, none⟩ (.int .i64 m.from_)).setCell ⟨h0, 3, none⟩ (.int .i64 m.n)).setCell ⟨h0, 4, none⟩ (.bool m.wr)).alloc (.cells #[.int .i64 m.at_, .int .u64 m.seg, .int .i64 m.from_, .int .i64 m.n, .bool m.wr] 125))) :=
     Lib.hid ((((((Hb.out.setCell (p := ⟨h0, 0, none⟩) (Nat.le_refl _) _).setCell (p := ⟨h0, 1, none⟩) (Nat.le_refl _) _).setCell (p := ⟨h0, 2, none⟩) (Nat.le_refl _) _).setCell (p := ⟨h0, 3, none⟩) (Nat.le_refl _) _).setCell (p := ⟨h0, 4, none⟩) (Nat.le_refl _) _).alloc (by simp; omega) _)
    go_wp2_with fail
    have hXc := HX5.out.cell;refine bodyPost_ret (v := .tuple #[.agg #[.int .i64 m.at_, .int .u64 m.seg, .int .i64 m.from_, .int .i64 m.n, .bool m.wr], .bool true]) (by simp [results, Tryz.results278, go_sem, hXc]) rfl ⟨by rw [Q.out], ?_⟩;have hl0 := Hh.out;rw [<- hl0];exact HB5.out
   ·have HN2 : Hid (∀ j, j < k + 1 -> ∀ x, l[j]? = some x -> ¬ (x.at_ <= p /\ p < x.at_ + x.n)) := fun j hj x hx => by
     by_cases e : j = k
     ·subst e; rw [HX.out] at hx; cases hx; exact q
     ·exact HN.out j (by omega) x hx
    clear hfm;by_cases q1 : m.at_ <= p
    ·have e1 : decide (m.at_ <= p) = true := decide_eq_true q1
     have e2 : decide (p < m.at_ + m.n) = false := decide_eq_false (fun e => q ⟨q1, e⟩);have q2 : ¬ p < m.at_ + m.n := fun e => q ⟨q1, e⟩
     clear q;go_wp2_with fail
     go_roundg (l.length - (k + 1))
     case measure => omega
     case rel => exact ⟨k + 1, by omega, rfl, HN2.out, Hb3.out, HTn.out⟩
    ·have e1 : decide (m.at_ <= p) = false := decide_eq_false q1
     clear q;go_wp2_with fail
     go_roundg (l.length - (k + 1))
     case measure => omega
     case rel => exact ⟨k + 1, by omega, rfl, HN2.out, Hb3.out, HTn.out⟩
  ·have hkl : k = l.length := by omega
   have hge : ¬ (k : Int) < (l.length : Int) := by omega
   have Q : Hid (findV l p = .tuple #[.agg #[.int .i64 0, .int .u64 0, .int .i64 0, .int .i64 0, .bool false], .bool false]) := by
    have : findMap l p = none := findMap_none (fun j hj => HN.out j (by omega))
    unfold Hid findV; rw [this]
   have hTc := HT2.out.cell;clear hn hb hT hkl;go_wp2_with fail
   refine bodyPost_ret (v := .tuple #[.agg #[.int .i64 0, .int .u64 0, .int .i64 0, .int .i64 0, .bool false], .bool false]) (by simp [results, Tryz.results278, go_sem, hTc]) rfl ⟨by rw [Q.out], ?_⟩;have hl0 := Hh.out;have hb3 := Hb.out;rw [<- hl0];exact ((((hb3.setCell (p := ⟨h0, 0, none⟩) (Nat.le_refl _) _).setCell (p := ⟨h0, 1, none⟩) (Nat.le_refl _) _).setCell (p := ⟨h0, 2, none⟩) (Nat.le_refl _) _).setCell (p := ⟨h0, 3, none⟩) (Nat.le_refl _) _).setCell (p := ⟨h0, 4, none⟩) (Nat.le_refl _) _
theorem KIn.tlbPiece {w w' : World} {g : Gh} {K : Km} (h : KIn w g K) {i : Nat} (hi : i < K.nc) {cs : Array Value} (hB : Blk w g.cb cs 162) (hin : ∀ j, j < K.nc -> In cs (j * 27) (coreC (K.cores j) (g.tlb j) (g.flush j) (g.last j))) {t : Pl}
  (hP : Piece w w' g.cb 162 (i * 27 + 11) cs 13 t.list) : KIn w' (g.core i t (g.flush i) (g.last i)) K /\ Ext g (g.core i t (g.flush i) (g.last i)) w w' := by
 obtain ⟨k1, k2⟩ := h.corePiece hi hB hin (p := 11) hP (by decide) (c := K.cores i) (t := t) (fl := g.flush i) (la := g.last i) (h.cores.ok i hi) (fun k hk => by
  by_cases e : 11 <= k /\ k < 24
  ·rw [if_pos e]
   obtain ⟨j, rfl⟩ : ∃ j, k = 11 + j := ⟨k - 11, by omega⟩;rw [show 11 + j - 11 = j by omega];have hj : j < 13 := by omega
   match j, hj with
   | 0, _ => rfl
   | 1, _ => rfl
   | 2, _ => rfl
   | 3, _ => rfl
   | 4, _ => rfl
   | 5, _ => rfl
   | 6, _ => rfl
   | 7, _ => rfl
   | 8, _ => rfl
   | 9, _ => rfl
   | 10, _ => rfl
   | 11, _ => rfl
   | 12, _ => rfl
  ·rw [if_neg e]
   match k, hk, e with
   | 0, _, _ => rfl
   | 1, _, _ => rfl
   | 2, _, _ => rfl
   | 3, _, _ => rfl
   | 4, _, _ => rfl
   | 5, _, _ => rfl
   | 6, _, _ => rfl
   | 7, _, _ => rfl
   | 8, _, _ => rfl
   | 9, _, _ => rfl
   | 10, _, _ => rfl
   | 11, _, e => exact absurd ⟨by decide, by decide⟩ e
   | 12, _, e => exact absurd ⟨by decide, by decide⟩ e
   | 13, _, e => exact absurd ⟨by decide, by decide⟩ e
   | 14, _, e => exact absurd ⟨by decide, by decide⟩ e
   | 15, _, e => exact absurd ⟨by decide, by decide⟩ e
   | 16, _, e => exact absurd ⟨by decide, by decide⟩ e
   | 17, _, e => exact absurd ⟨by decide, by decide⟩ e
   | 18, _, e => exact absurd ⟨by decide, by decide⟩ e
   | 19, _, e => exact absurd ⟨by decide, by decide⟩ e
   | 20, _, e => exact absurd ⟨by decide, by decide⟩ e
   | 21, _, e => exact absurd ⟨by decide, by decide⟩ e
   | 22, _, e => exact absurd ⟨by decide, by decide⟩ e
   | 23, _, e => exact absurd ⟨by decide, by decide⟩ e
   | 24, _, _ => rfl
   | 25, _, _ => rfl
   | 26, _, _ => rfl
   | k + 27, hk, _ => exact absurd hk (by omega))
 rw [Km.core_same] at k1;exact ⟨k1, k2⟩
theorem find_spec {t : Pl} {page : Int} {wr : Bool} (h : t.find page wr ≠ 0) : ∃ k, k < 4 /\ t.f k = t.find page wr /\ t.f k ≠ 0 /\ t.p k = page /\ (t.w k = true \/ wr = false) := by
 have key : ∀ k, t.hit page wr k = true -> t.f k ≠ 0 /\ t.p k = page /\ (t.w k = true \/ wr = false) := fun k e => by
  unfold Pl.hit at e;simp only [Bool.and_eq_true, bne_iff_ne, ne_eq, beq_iff_eq, Bool.or_eq_true, Bool.not_eq_true'] at e;exact ⟨e.1.1, e.1.2, e.2⟩
 by_cases h0 : t.hit page wr 0 = true
 ·exact ⟨0, by omega, (find_at t page wr 0 (by omega) (fun j hj => by omega) h0).symm, key 0 h0⟩
 have h0' : t.hit page wr 0 = false := by simpa using h0
 by_cases h1 : t.hit page wr 1 = true
 ·exact ⟨1, by omega, (find_at t page wr 1 (by omega) (fun j hj => by rcases (show j = 0 by omega) with rfl; exact h0') h1).symm, key 1 h1⟩
 have h1' : t.hit page wr 1 = false := by simpa using h1
 by_cases h2 : t.hit page wr 2 = true
 ·exact ⟨2, by omega, (find_at t page wr 2 (by omega) (fun j hj => by rcases (show j = 0 \/ j = 1 by omega) with rfl | rfl <;> assumption) h2).symm, key 2 h2⟩
 have h2' : t.hit page wr 2 = false := by simpa using h2
 by_cases h3 : t.hit page wr 3 = true
 ·exact ⟨3, by omega, (find_at t page wr 3 (by omega) (fun j hj => by rcases (show j = 0 \/ j = 1 \/ j = 2 by omega) with rfl | rfl | rfl <;> assumption) h3).symm, key 3 h3⟩
 have h3' : t.hit page wr 3 = false := by simpa using h3
 exact absurd (by unfold Pl.find; simp [h0', h1', h2', h3']) h
theorem put_spec {t : Pl} {page frame : Int} {wr : Bool} (hn : 0 <= t.n /\ t.n < 4) (hf : 1 <= frame) : (∀ k, ((t.put page frame wr).p k = t.p k /\ (t.put page frame wr).f k = t.f k /\ (t.put page frame wr).w k = t.w k) \/ ((t.put page frame wr).p k = page /\ (t.put page frame wr).f k = frame /\ (t.put page frame wr).w k = wr)) /\ 0 <= (t.put page frame wr).n /\ (t.put page frame wr).n < 4 := by
 have key : ∀ (j : Nat) (m k : Nat) (n : Int), (((t.store j page frame wr n).p k = t.p k /\ (t.store j page frame wr n).f k = t.f k /\ (t.store j page frame wr n).w k = t.w k) \/ ((t.store j page frame wr n).p k = page /\ (t.store j page frame wr n).f k = frame /\ (t.store j page frame wr n).w k = wr)) := fun j m k n => by
  by_cases e : k = j
  ·subst e; exact .inr ⟨upd_same' _ _ _, upd_same' _ _ _, upd_same' _ _ _⟩
  ·exact .inl ⟨upd_ne' _ _ _ _ e, upd_ne' _ _ _ _ e, upd_ne' _ _ _ _ e⟩
 unfold Pl.put;rw [if_neg (by omega)];split
 ·exact ⟨fun k => key _ 0 k _, by show 0 <= (t.n + 1) % 4; omega, by show (t.n + 1) % 4 < 4; omega⟩
 ·exact ⟨fun k => key _ 0 k _, hn.1, hn.2⟩
def frameV (g : Gh) (K : Km) (o : Ob) (va : Int) (wr : Bool) : Int := match K.whereTo o va with
 | some (s, a, may) => if (wr && !may) = true then 0 else (g.fr s).getD (a / 64).toNat 0
 | none => 0
theorem where_split {K : Km} {o : Ob} {va : Int} : K.whereTo o va = (K.whereTo o (va / 64 * 64)).map fun r => (r.1, r.2.1 + va % 64, r.2.2) := by
 have e : va / 64 * 64 + va % 64 = va := by omega
 have := where_page (K := K) (o := o) (va / 64) (va % 64) (by omega) (by omega);rw [e] at this; exact this
theorem frame_leads {g : Gh} {K : Km} {o : Ob} {va f : Int} {y wr : Bool} (hn : ∀ n o, K.obj n = some o -> o.name = n) (h : Leads g K o (va / 64) f y) (hy : y = true \/ wr = false) : frameV g K o va wr = f := by
 obtain ⟨s, a, may, h1, h2, h3⟩ := h;obtain ⟨c, -, -, -, h4⟩ := where_some hn h1;unfold frameV;rw [where_split, h1];simp only [Option.map_some]
 rw [if_neg (by
  rcases hy with e | e
  ·rw [h3 e]; simp
  ·rw [e]; simp), <- h2]
 congr 2
 omega
theorem leads_frame {g : Gh} {K : Km} {o : Ob} {va s a : Int} {may : Bool} (hn : ∀ n o, K.obj n = some o -> o.name = n) (h : K.whereTo o va = some (s, a, may)) : Leads g K o (va / 64) ((g.fr s).getD (a / 64).toNat 0) may := by
 rw [where_split] at h
 cases e : K.whereTo o (va / 64 * 64) with
 | none => rw [e] at h; cases h
 | some r =>
  obtain ⟨s', a', m'⟩ := r;rw [e] at h;simp only [Option.map_some, Option.some.injEq, Prod.mk.injEq] at h;obtain ⟨rfl, rfl, rfl⟩ := h;obtain ⟨c, -, -, -, h4⟩ := where_some hn e;refine ⟨_, _, _, e, ?_, fun q => q⟩;congr 2
  omega
theorem where_nonneg {K : Km} {o : Ob} {va s a : Int} {may : Bool} (hM : MapsOk K) (h : K.whereTo o va = some (s, a, may)) : 0 <= a := by
 unfold Km.whereTo at h
 cases e1 : K.obj o.th.space with
 | none => rw [e1] at h; cases h
 | some sp =>
  rw [e1] at h;simp only at h;split at h
  ·cases e3 : findMap sp.maps (va / 64) with
   | none => rw [e3] at h; cases h
   | some m =>
    rw [e3] at h;simp only at h;obtain ⟨mem, q1, q2⟩ := findMap_some e3;obtain ⟨-, -, ⟨q3, -⟩, -⟩ := fits_spec (hM _ _ e1 m mem)
    cases e4 : K.obj m.seg with
    | none => rw [e4] at h; cases h
    | some c =>
     rw [e4] at h;simp only at h;split at h
     ·simp only [Option.some.injEq, Prod.mk.injEq] at h
      obtain ⟨h1, h2, h3⟩ := h;omega
     ·cases h
  ·cases h
theorem frame_pos {g : Gh} {K : Km} {o : Ob} {va s a : Int} {may : Bool} (hI : Inv g K) (hM : MapsOk K) (h : K.whereTo o va = some (s, a, may)) : 1 <= (g.fr s).getD (a / 64).toNat 0 /\ (g.fr s).getD (a / 64).toNat 0 <= g.P.n /\ (a / 64).toNat < (g.fr s).length := by
 obtain ⟨c, hc, hk, h1, -⟩ := where_some hI.name h;have h0 := where_nonneg hM h;have hs := hI.seg s c hc hk;have hnm := hI.name s c hc;rw [<- hnm];have hlt : (a / 64).toNat < (g.fr c.name).length := by rw [hs.len]; omega
 obtain ⟨t1, t2⟩ := hs.inn.there (getD_mem hlt);exact ⟨t1, t2, hlt⟩
theorem kput_any (w : World) (g : Gh) (K : Km) (h : KIn w g K) (hI : Inv g K) (i : Nat) (hi : i < K.nc) (o : Ob) (page frame : Int) (wr : Bool) (hf : 1 <= frame) (hla : g.last i = o.name) (ho : K.obj o.name = some o) (hp : 0 <= page /\ page < 4096) (hl : Leads g K o page frame wr) :
  Calls Tryz.prog 320 #[.pointer (some ⟨g.cb, i * 27 + 11, none⟩), .int .i64 page, .int .i64 frame, .bool wr] w fun e w' => e = .returned (.tuple #[]) /\ ∃ g', KIn w' g' K /\ Inv g' K /\ Ext g g' w w' /\ Same g g' := by
 obtain ⟨htag, cs, hB, hin⟩ := h.cores.ex (by omega);obtain ⟨cs', hB', hI'⟩ := h.pl hi
 have hIn : In cs (i * 27 + 11) (g.tlb i).list := by
  have e : cs' = cs := by unfold Blk at hB hB'; rw [hB] at hB'; cases hB'; rfl
  rw [<- e]; exact hI'
 have hn := hI.tn i hi;refine (tput_any g.cb (i * 27 + 11) _ (g.tlb i) cs page frame wr w hB hIn (by omega) hn.1 hn.2).mono ?_;rintro e w' ⟨rfl, hP⟩;obtain ⟨k1, k2⟩ := h.tlbPiece hi hB hin hP;obtain ⟨p1, p2⟩ := put_spec (t := g.tlb i) (page := page) (frame := frame) (wr := wr) hn hf;refine ⟨rfl, _, k1, ?_, k2, ⟨rfl, ?_, ?_, rfl, rfl⟩⟩
 ·have := hI.cores (f := K.cores) (tlb := fun j => if j = i then (g.tlb i).put page frame wr else g.tlb j) (flush := fun j => if j = i then g.flush i else g.flush j) (last := fun j => if j = i then g.last i else g.last j) (fun j hj hfl k hk hk2 => ?_) (fun j hj => ?_)
  ·exact this
  ·show ∃ o, K.obj (if j = i then g.last i else g.last j) = some o /\ (0 <= (if j = i then (g.tlb i).put page frame wr else g.tlb j).p k /\ (if j = i then (g.tlb i).put page frame wr else g.tlb j).p k < 4096) /\ Leads g K o ((if j = i then (g.tlb i).put page frame wr else g.tlb j).p k) ((if j = i then (g.tlb i).put page frame wr else g.tlb j).f k) ((if j = i then (g.tlb i).put page frame wr else g.tlb j).w k)
   replace hfl : (if j = i then g.flush i else g.flush j) = false := hfl;replace hk2 : (if j = i then (g.tlb i).put page frame wr else g.tlb j).f k ≠ 0 := hk2;by_cases e : j = i
   ·subst e
    rw [if_pos rfl] at hfl hk2 ⊢;rw [if_pos rfl];rcases p1 k with ⟨q1, q2, q3⟩ | ⟨q1, q2, q3⟩
    ·rw [q2] at hk2
     rw [q1, q2, q3];exact hI.tlb j hj hfl k hk hk2
    ·rw [q1, q2, q3]
     exact ⟨o, by rw [hla]; exact ho, hp, hl⟩
   ·rw [if_neg e] at hfl hk2 ⊢
    rw [if_neg e];exact hI.tlb j hj hfl k hk hk2
  ·show 0 <= (if j = i then (g.tlb i).put page frame wr else g.tlb j).n /\ (if j = i then (g.tlb i).put page frame wr else g.tlb j).n < 4
   by_cases e : j = i
   ·rw [if_pos e]; exact p2
   ·rw [if_neg e]; exact hI.tn j hj
 ·funext j
  show (if j = i then g.flush i else g.flush j) = g.flush j
  by_cases e : j = i
  ·rw [if_pos e, e]
  ·rw [if_neg e]
 ·funext j
  show (if j = i then g.last i else g.last j) = g.last j
  by_cases e : j = i
  ·rw [if_pos e, e]
  ·rw [if_neg e]
end Go.Proofs.YtiadbhiadhgjkaaGreatDoor
namespace Go.Proofs.YtiadbhiadhgjkaaGreatDoor
open Go.RowKit
theorem cntN_iff (N M : Nat -> Int) (k : Nat) (h : ∀ j, j < k -> (N j = 0 ↔ M j = 0)) : cntN N k = cntN M k := by
 induction k with
 | zero => rfl
 | succ k ih =>
  unfold cntN;rw [ih (fun j hj => h j (by omega))];by_cases c : N k = 0
  ·rw [if_pos c, if_pos ((h k (by omega)).1 c)]
  ·rw [if_neg c, if_neg (fun q => c ((h k (by omega)).2 q))]
theorem cntN_add (N : Nat -> Int) (c k : Nat) (hc : c < k) (v : Int) (hv : v ≠ 0) : cntN (updI N c v) k = cntN N k + (if N c = 0 then 1 else 0) := by
 induction k with
 | zero => omega
 | succ k ih =>
  unfold cntN;by_cases e : c = k
  ·subst e
   rw [cntN_congr (updI N c v) N c (fun j hj => updI_other _ _ _ _ (by omega)), updI_same, if_neg hv];by_cases c0 : N c = 0
   ·simp [c0]
   ·simp [c0]
  ·rw [ih (by omega), updI_other _ _ _ _ (show k ≠ c by omega)]; omega
section
variable {P : Pool} {r o : Int} {N N' F : Nat -> Int} {Y : Nat -> Bool}
theorem Tab.more (h : Tab P r o N F Y) (p : Nat) (hp : p < 4096) (hn : ∀ n, N' n ≠ 0 ↔ N n ≠ 0 \/ n = nd p 1 \/ n = nd p 2 \/ n = nd p 3) : cntN N' 585 = cntN N 585 + needT N p := by
 have l1 := nd_lt p 1 hp; have l2 := nd_lt p 2 hp; have l3 := nd_lt p 3 hp;have n12 : nd p 1 ≠ nd p 2 := by simp only [nd]; omega
 have n13 : nd p 1 ≠ nd p 3 := by simp only [nd]; omega
 have n23 : nd p 2 ≠ nd p 3 := by simp only [nd]; omega
 rw [cntN_iff N' (updI (updI (updI N (nd p 1) 1) (nd p 2) 1) (nd p 3) 1) 585 (fun j hj => ?_),
  cntN_add _ _ _ l3 1 (by omega), cntN_add _ _ _ l2 1 (by omega), cntN_add _ _ _ l1 1 (by omega), updI_other _ _ _ _ n23.symm, updI_other _ _ _ _ n13.symm, updI_other _ _ _ _ n12.symm]
 ·have g1 := h.gap hp 1 2 (by omega) (by omega); have g2 := h.gap hp 2 3 (by omega) (by omega)
  unfold needT;by_cases c1 : N (nd p 1) = 0
  ·have c2 := g1 c1; have c3 := g2 c2
   simp [c1, c2, c3]
  ·by_cases c2 : N (nd p 2) = 0
   ·have c3 := g2 c2
    simp [c1, c2, c3]
   ·by_cases c3 : N (nd p 3) = 0
    ·simp [c1, c2, c3]
    ·simp [c1, c2, c3]
 ·have hj' := hn j
  by_cases e3 : j = nd p 3
  ·subst e3; rw [updI_same]
   have : N' (nd p 3) ≠ 0 := hj'.2 (.inr (.inr (.inr rfl)))
   simp [this]
  ·rw [updI_other _ _ _ _ e3]
   by_cases e2 : j = nd p 2
   ·subst e2; rw [updI_same]
    have : N' (nd p 2) ≠ 0 := hj'.2 (.inr (.inr (.inl rfl)))
    simp [this]
   ·rw [updI_other _ _ _ _ e2]
    by_cases e1 : j = nd p 1
    ·subst e1; rw [updI_same]
     have : N' (nd p 1) ≠ 0 := hj'.2 (.inr (.inl rfl))
     simp [this]
    ·rw [updI_other _ _ _ _ e1]
     constructor
     ·intro q
      by_cases c : N j = 0
      ·exact c
      ·exact absurd q (hj'.2 (.inl c))
     ·intro q
      by_cases c : N' j = 0
      ·exact c
      ·rcases hj'.1 c with c' | c' | c' | c'
       ·exact absurd q c'
       ·exact absurd c' e1
       ·exact absurd c' e2
       ·exact absurd c' e3
end
attribute [local irreducible] World.setCell World.alloc World.drew World.setRow Calls Code.wp row
theorem fill_few (pb db ob : Nat) (P : Pool) (r o : Int) (N F : Nat -> Int) (Y : Nat -> Bool) (p : Nat) (f most : Int) (b : Bool) (w : World) (hP : PoolAt w pb db ob P) (hT : Tab P r o N F Y) (hp : p < 4096)
  (hf1 : 1 <= f) (hm0 : 0 <= most) (hm : most < (needT N p : Int)) (hl : most <= (P.left : Int)) :
  Calls Tryz.prog 322 #[.pointer (some ⟨pb, 0, none⟩), .int .i64 r, .int .i64 p, .int .i64 f, .bool b, .int .u64 o, .int .i64 most] w fun e w' =>
   e = .returned (.tuple #[.int .i64 0, .bool false]) /\ ∃ P', PoolAt w' pb db ob P' /\ Tab P' r o N F Y /\ SegMv P P' o /\ P'.left = P.left /\ countTo P'.O o P.n = countTo P.O o P.n /\ Kept (PS pb db ob) w w' := by
 have hro : P.owner r ≠ 0 := by rw [hT.root_own]; exact hT.o0
 have hrob : (P.owner r == 0) = false := by simpa using hro
 have hpi : (p : Int) < 4096 := by omega
 have HP := Lib.hid hP; have HT := Lib.hid hT; have Hm := Lib.hid hm; have Hl := Lib.hid hl;have hpn := hP.hi;obtain ⟨i0, hi, hz0, hz1, hz2⟩ := info_parts infoInt;have Hi := Lib.hid hi; have Hz0 := Lib.hid hz0; have Hz1 := Lib.hid hz1; have Hz2 := Lib.hid hz2;clear hP hT hm hl hi hz0 hz1 hz2 hro;go_enter Tryz.func322, Tryz.ntmps322
 go_wp2_with fail
 refine (owner_any pb db ob P r _ HP.out).mono ?_;rintro e w' ⟨rfl, rfl⟩;go_wp2_with fail
 go_loopg [16, 17, 18, 19, 42] 3 (fun g mv at_ fs wh i wx => ∃ (l a : Nat) (P' : Pool) (N' : Nat -> Int) (xs : List Value) (fi : Int) (wi : Nat), l + g = 3 /\ i = .int .i64 l /\ at_ = .int .i64 (N' (nd p l)) /\ fs = .int .i64 fi /\ wh = .int .i64 wi /\ wx.ownsRow w.heap.size 3 1 mv (l - a) xs /\ Down w wx pb db ob P r o N F Y p l a P' N' /\ xs = (madeL N' p a l).map (Value.int .i64) /\ wi < 8 /\ (a < l -> fi = N (nd p a) /\ wi = p / 8 ^ (3 - a) % 8 /\ ((l - a : Nat) : Int) <= most))
 case atStart => exact ⟨0, 0, P, N, [], 0, 0, rfl, rfl, by show Value.int .i64 r = .int .i64 (N 0); rw [HT.out.root], rfl, rfl, World.ownsRow_nil _ _ _ _, Down.start HP.out HT.out, by rw [madeL_nil]; rfl, by omega, fun h => absurd h (by omega)⟩
 case round =>
  obtain ⟨l, a, P', N', xs, fi, wi, hg, rfl, rfl, rfl, rfl, hown, hD, hxs, hwi, hfw⟩ := hrel;have Hxs := Lib.hid hxs; have Hfw := Lib.hid hfw; have Hwi := Lib.hid hwi;clear hxs hfw hwi;have Hown := Lib.hid hown; have HD := Lib.hid hD;have hal := hD.al;have hszr := hD.kept.size;have Hpr := Lib.hid hD.pool;obtain ⟨t, ht⟩ : ∃ t, N' (nd p l) = t := ⟨_, rfl⟩;have hto : P'.owner t ≠ 0 := by rw [<- ht, hD.tab.own _ (nd_lt p l hp) hD.here]; exact hD.tab.o0
  have Hto := Lib.hid hto;clear hown hD hto;by_cases hl3 : l < 3
  ·have hli : (l : Int) < 3 := by omega
   rw [ht];have Ht := Lib.hid ht; clear ht;go_wp2_with fail
   refine (index_any l p _ (by omega) hp).mono ?_;rintro e w' ⟨rfl, rfl⟩;obtain ⟨i, hi⟩ : ∃ i, p / 8 ^ (3 - l) % 8 = i := ⟨_, rfl⟩;have hi8 : i < 8 := by omega
   rw [hi];have Hi' := Lib.hid hi; clear hi;go_wp2_with fail
   refine (entry_any pb db ob P' t i _ Hpr.out Hto.out hi8).mono ?_;rintro e w2 ⟨rfl, hb2⟩;have hst := HD.out.tab.step p l hp hl3 (by rw [Ht.out]; have := HD.out.here; rw [Ht.out] at this; exact this);rw [Ht.out, Hi'.out] at hst;have Hown2 := Lib.hid (Hown.out.kept (row := none) ⟨hb2.os, hb2.tape, hb2.output, hb2.size, fun b hb _ => hb2.block b hb⟩ (by by_cases h : u16.ownBlock = none; exact .inl h; exact .inr h))
   have HD2 : Hid (Down w w2 pb db ob P r o N F Y p l a P' N') :=
    ⟨HD.out.al, HD.out.pool.below hb2, HD.out.tab, HD.out.mv, HD.out.left, HD.out.cnt, HD.out.old, HD.out.new, HD.out.was, HD.out.gap, HD.out.here, HD.out.kept.trans (Kept.of_below hb2)⟩
   have hsz2 := hb2.size;clear hb2 HD Hown Hpr;by_cases hc : N' (nd p (l + 1)) = 0
   ·rw [if_pos hc] at hst
    have hpn' : P'.n = P.n := HD2.out.mv.n
    have hneed : l - a < needT N p := by
     have hN0 : N (nd p (l + 1)) = 0 := by
      by_cases e : N (nd p (l + 1)) = 0
      ·exact e
      ·rw [HD2.out.old _ e] at hc; exact absurd hc e
     by_cases e : a < l
     ·rw [needT_at N p a (by omega) HD2.out.was (HD2.out.gap e)]; omega
     ·obtain rfl : a = l := by omega
      rw [needT_at N p a hl3 HD2.out.was hN0]; omega
    have hleft' := HD2.out.left;have hpl : ((l - a : Nat) : Int) < most -> 1 <= P'.left := fun q => by have := Hl.out; omega
    have hh0 := HD2.out.here;have hcc : 8 * nd p l + 1 + p / 8 ^ (3 - l) % 8 = nd p (l + 1) := nd_step p l hp hl3;have HGr := Lib.hid (fun q => HD2.out.tab.grow (nd p l) (p / 8 ^ (3 - l) % 8) (nd_lt p l hp) (Nat.mod_lt _ (by omega)) hh0 (by rw [hcc]; exact nd_lt p (l + 1) hp) (by rw [hcc]; exact hc) (hpl q) (by omega));have Hc := Lib.hid hc; have HCc := Lib.hid hcc;have ha : bits .and .u64 0 1 = 0 := by decide
    obtain ⟨A, C, hA⟩ : ∃ A C, u16 = .slice A (l - a) C := by
     rcases Hown2.out.2 with ⟨e, h0⟩ | ⟨g, cap, cur, e, _⟩
     ·exact ⟨none, 0, by rw [e, h0]⟩
     ·exact ⟨_, _, e⟩
    subst hA;obtain ⟨c', hc'⟩ : ∃ c', l - a = c' := ⟨_, rfl⟩;rw [hc'] at hneed ⊢;have Hown3 : Hid (w2.ownsRow w.heap.size 3 1 (.slice A c' C) c' xs) := by have := Hown2.out; rw [hc'] at this; exact this
    have Hc' := Lib.hid hc';have hc3 : c' <= 3 := by omega
    have hlaw : IntKind.i64.wrap ((c' : Int)) = (c' : Int) := IntWalk.i64_in _ (by omega);rw [hst];clear hst hc hc' hcc hh0 Hown2 hpl hleft' hneed hpn' hlaw;by_cases hlm : (c' : Int) < most
    ·obtain ⟨t', hr, ht1, ht2, hT', hmv, hll, hcn⟩ := HGr.out (by rw [Hc'.out]; exact hlm)
     rw [HCc.out] at hT';have HT' := Lib.hid hT'; have Hmv := Lib.hid hmv; have Hll := Lib.hid hll; have Hcn := Lib.hid hcn; have Hr := Lib.hid hr;have ht3 : t' <= 4096 := by have := HD2.out.mv.n; omega
     have htb : (t' == 0) = false := by simp; omega
     have hor : bits .or .u64 (t' * 256) 1 = t' * 256 + 1 := or_u64 t' 1 (by omega) (by omega) (by omega) (by omega);clear hT' hmv hll hcn hr;obtain ⟨zb, hcb, hz1, hz2⟩ : ∃ zb : Bool, ((c' : Int) == 0) = zb /\ (zb = true -> c' = 0) /\ (zb = false -> 0 < c') := ⟨_, rfl, fun h => by simpa using h, fun h => by have h2 : (c' : Int) ≠ 0 := (by simpa using h); omega⟩
     have HZ : Hid (if zb = true then c' = 0 else 0 < c') := by
      cases zb
      ·exact hz2 rfl
      ·exact hz1 rfl
     clear hz1 hz2
     cases zb
     all_goals
      go_wp2_with fail
      refine (alloc_any pb db ob P' o _ HD2.out.pool).mono ?_;rintro e w3 ⟨rfl, hP3, hK3⟩;rw [Hr.out];have HP3 := Lib.hid hP3; have HK3 := Lib.hid hK3
      have Hown4 : Hid (w3.ownsRow w.heap.size 3 1 (.slice A c' C) c' xs) := own_ps Hown3.out hK3 (fun k hk => by
       rcases hk with e | e | e <;> subst e
       ·exact HP.out.hp.lt
       ·exact HP.out.hd.lt
       ·exact HP.out.ho.lt)
      clear hP3 hK3;go_wp2_with fail
      refine (set_any pb db ob _ t i (t' * 256 + 1) _ HP3.out hi8 (by omega) (by omega)).mono ?_;rintro e w4 ⟨rfl, hP4, hK4⟩
      have Hown5 := Lib.hid (own_ps Hown4.out hK4 (fun k hk => by
       rcases hk with e | e | e <;> subst e
       ·exact HP.out.hp.lt
       ·exact HP.out.hd.lt
       ·exact HP.out.ho.lt))
      have hsz4 := Nat.le_trans (Nat.le_trans hszr hsz2) (Nat.le_trans HK3.out.size hK4.size)
      have HD5 : Hid (Down w w4 pb db ob P r o N F Y p (l + 1) a ((P'.alloc o).setE (N' (nd p l)) (p / 8 ^ (3 - l) % 8) (t' * 256 + 1)) (updI N' (nd p (l + 1)) t')) :=
       HD2.out.make hl3 Hc.out t' (by omega) HT'.out Hmv.out Hll.out Hcn.out (by rw [Ht.out, Hi'.out]; exact hP4) (HK3.out.trans hK4)
      clear hP4 hK4;go_wp2_with (at_builtin; refine wpList_append_own _ rfl _ _ 34 rfl w.heap.size 3 i0 (.int .i64 0) 1 8 Tryz.underlying34 Hi.out Hz0.out Hz1.out Hz2.out rfl (by decide) _ _ _ rfl (Hown5.out.alloc _) ⟨w4.heap.size, 0, none⟩ 1 1 [.int .i64 t'] rfl rfl (cell_one_new' _ _ _) (fun u hu => by simp at hu; subst hu; rfl) (by unfold maxLen; omega) (by omega) (by simp; omega) ?_; intro v' w6 hown6 hgrow6 _)
      have HD6 := Lib.hid (HD5.out.grown (row := (Value.slice A c' C).ownBlock) hgrow6 HP.out (fun k hk => (Hown5.out.lt k hk).1));go_roundg (3 - (l + 1))
      case measure => omega
      case rel => exact ⟨l + 1, a, _, _, _, _, _, by omega, by go_num, by rw [updI_same], rfl, rfl, by rw [show l + 1 - a = c' + 1 by have := Hc'.out; omega]; exact hown6, HD6.out, by rw [madeL_step hp hal hl3, List.map_append, Hxs.out]; rfl, (by first | exact hi8 | exact Hwi.out), (by
        intro _;have hc1 := Hc'.out;have hz3 := HZ.out
        first
         | (have hz4 : c' = 0 := by simpa using hz3
            obtain rfl : a = l := by omega
            exact ⟨by rw [<- Ht.out]; exact HD2.out.old _ (HD2.out.was a (Nat.le_refl _)), Hi'.out.symm, by omega⟩)
         | (have hz4 : 0 < c' := by simpa using hz3
            obtain ⟨e1, e2, e3⟩ := Hfw.out (by omega);exact ⟨e1, e2, by omega⟩))⟩
    ·have hpl3 := HP.out.hp.lt; have hpl4 := HP.out.hd.lt; have hpl5 := HP.out.ho.lt
     have hlm' : ¬ (c' : Int) < most := hlm
     have hg3 : ∃ g, ¬ PS pb db ob g /\ (0 < c' -> A = some ⟨g, 0, none⟩) := by
      rcases Hown3.out.2 with ⟨e, h0⟩ | ⟨g, cap, cur, e, hb, _⟩
      ·exact ⟨pb + db + ob + 1, by rintro (e | e | e) <;> omega, fun h => absurd h (by omega)⟩
      ·refine ⟨g, by rintro (e1 | e1 | e1) <;> omega, fun _ => ?_⟩
       injection e
     obtain ⟨g, hg1, hg2⟩ := hg3
     have hun := undo_any pb db ob P' (madeL N' p a l) A C g fi wi w2 HD2.out.pool Hwi.out (by rw [madeL_len]; omega) (by rw [madeL_len, Hc'.out]; exact hg2) (by
      intro j hj;rw [madeL_len, Hc'.out] at hj;have h1 := Hown3.out;obtain rfl := hg2 (by omega);rw [h1.cellAt j (by omega), Hxs.out];simp [List.getD, madeL, show j < l - a by have := Hc'.out; omega]) hg1
     rw [madeL_len, Hc'.out] at hun;have Hun := Lib.hid hun;clear hun hg1 hg2;go_wp2_with fail
     refine Hun.out.mono ?_;rintro e w3 ⟨rfl, hP3, hK3⟩;have hun := HD2.out.undo HT.out hp (by omega)
     have hE : freeAll (if 0 < c' then P'.setE fi wi 0 else P') (madeL N' p a l) = undone P' N N' p a l := by
      unfold undone;by_cases h0 : 0 < c'
      ·obtain ⟨e1, e2, -⟩ := Hfw.out (by have := Hc'.out; omega)
       rw [if_pos h0, if_pos (by have := Hc'.out; omega), e1, e2]
      ·rw [if_neg h0, if_neg (by have := Hc'.out; omega)]
     rw [hE] at hP3;have HP3 := Lib.hid hP3; have HK3 := Lib.hid (HD2.out.kept.trans hK3); have Hq := Lib.hid hun;clear hP3 hK3 hE hun;go_wp2_with fail
     go_ret2
     exact ⟨rfl, _, HP3.out, Hq.out.1, Hq.out.2.1, Hq.out.2.2.1, Hq.out.2.2.2, HK3.out⟩
   ·rw [if_neg hc] at hst
    obtain ⟨c1, c2⟩ := HD2.out.tab.bd _ (nd_lt p (l + 1) hp) hc;obtain ⟨c, hcc⟩ : ∃ c, N' (nd p (l + 1)) = c := ⟨_, rfl⟩;have hpn' : P'.n = P.n := HD2.out.mv.n;obtain ⟨e1, hD3⟩ := HD2.out.skip HT.out hp hl3 hc;rw [hcc] at hst c1 c2;have c3 : c <= 4096 := by omega
    have ha : bits .and .u64 (c * 256 + 1) 1 = 1 := by rw [and1_u64 _ (by omega) (by omega)]; omega
    have hd : (c * 256 + 1) / 256 = c := by omega
    rw [hst];have Hcc := Lib.hid hcc; have HD3 := Lib.hid hD3;subst e1;clear hst hcc hc hD3 hpn';go_wp2_with fail
    go_roundg (3 - (a + 1))
    case measure => omega
    case rel => exact ⟨a + 1, a + 1, P', N', xs, fi, wi, by omega, by go_num, by rw [Hcc.out], rfl, rfl, by have := Hown2.out; rw [Nat.sub_self] at this ⊢; exact this, HD3.out, by rw [Hxs.out, madeL_nil, madeL_nil], Hwi.out, fun h => absurd h (by omega)⟩
  ·obtain rfl : l = 3 := by omega
   exfalso
   have hneed : 3 - a = needT N p := by
    by_cases e : a < 3
    ·rw [needT_at N p a e HD.out.was (HD.out.gap e)]
    ·rw [needT_none N p (fun j hj => HD.out.was j (by omega))]; omega
   by_cases e : a < 3
   ·have := (Hfw.out e).2.2; have := Hm.out; omega
   ·have := Hm.out
    omega
end Go.Proofs.YtiadbhiadhgjkaaGreatDoor
