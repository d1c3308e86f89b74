/- Of the proof of this claim: a joined text. -/
import Derived.Test.YtmlcgebahdcmaaaGreatDoorZzNh
import Derived.KernelRfl
import Derived.Test.YtmlcgebahdcmaaaGreatDoorRows
import Derived.JoinedOf
import Derived.ProofKit
set_option maxRecDepth 100000
namespace Go.Proofs.YtmlcgebahdcmaaaGreatDoor
open Go.RowKit
def oneL (l : Lab) : Bool := decide (l.d = 2) && l.ps.isEmpty
theorem oneL_eq {l : Lab} (h : oneL l = true) : l = labOne := by
 obtain ⟨d, ps⟩ := l
 unfold oneL at h
 simp only [Bool.and_eq_true, decide_eq_true_eq, List.isEmpty_iff] at h
 obtain ⟨rfl, rfl⟩ := h
 rfl
def haltChk (K : Km) (o : Ob) : Bool :=
 match K.obj o.th.space with
 | none => false
 | some s => (decide (s.kind = 4) && oneL s.lab) && match findMap s.maps (0 / 64) with
  | none => false
  | some m => match K.obj m.seg with
   | none => false
   | some g => (decide (g.kind = 2) && (decide (m.from_ + 0 / 64 - m.at_ < (g.pages : Int)) && oneL g.lab)) && match K.obj g.name with
    | none => false
    | some q => (decB fun j => q.data (((m.from_ + 0 / 64 - m.at_) * 64 + 0 % 64).toNat + j)).right && decide ((decB fun j => q.data (((m.from_ + 0 / 64 - m.at_) * 64 + 0 % 64).toNat + j)).op = 1)
theorem haltChk_ins {K : Km} {o : Ob} (h : haltChk K o = true) (hr : readsL o.lab labOne = true) (hpc : o.th.pc = 0) : insNext K o = some (o.th, 2) := by
 unfold haltChk at h
 cases h1 : K.obj o.th.space with
 | none => rw [h1] at h; cases h
 | some s =>
  rw [h1] at h
  simp only [Bool.and_eq_true, decide_eq_true_eq] at h
  obtain ⟨⟨a1, a2⟩, h⟩ := h
  cases h2 : findMap s.maps (0 / 64) with
  | none => rw [h2] at h; cases h
  | some m =>
   rw [h2] at h
   simp only at h
   cases h3 : K.obj m.seg with
   | none => rw [h3] at h; cases h
   | some g =>
    rw [h3] at h
    simp only [Bool.and_eq_true, decide_eq_true_eq] at h
    obtain ⟨⟨b1, b2, b3⟩, h⟩ := h
    cases h4 : K.obj g.name with
    | none => rw [h4] at h; cases h
    | some q =>
     rw [h4] at h
     simp only [Bool.and_eq_true, decide_eq_true_eq] at h
     obtain ⟨c1, c2⟩ := h
     have hw : K.whereTo o 0 = some (g.name, (m.from_ + 0 / 64 - m.at_) * 64 + 0 % 64, m.wr && changesL o.lab g.lab) := by
      unfold Km.whereTo
      rw [h1]
      simp only
      rw [if_pos (by rw [oneL_eq a2, hr]; simp [a1]), h2]
      simp only
      rw [h3]
      simp only
      rw [if_pos (by rw [oneL_eq b3, hr]; simp only [Bool.and_eq_true, decide_eq_true_eq, and_true]; exact ⟨b1, b2⟩)]
     have hb : K.bytes o 0 = some fun j => q.data (((m.from_ + 0 / 64 - m.at_) * 64 + 0 % 64).toNat + j) := by
      unfold Km.bytes
      rw [hw]
      simp only
      rw [h4]
      rfl
     unfold insNext
     rw [hpc, if_neg (by omega), hb]
     simp only
     rw [if_pos c1]
     unfold insOne
     simp only
     rw [if_pos c2]
     show some (insDone o.th (o.th.r, wu (o.th.pc + 8), 2)) = _
     unfold insDone
     simp only
     rw [if_neg (by decide)]
def calmChk (K : Km) (c : Int) : Bool :=
 match K.threadsT c 0 with
 | none => false
 | some os => decide (os.length <= 100) && (decide ((os.map Ob.name).Nodup) && os.all fun o => decide (o.kind = 3) && (decide (o.th.cont.phase = 0) && (decide (o.th.state = 1) && (decide (o.th.pc = 0) && haltChk K o))))
def coreChk (K : Km) : Bool := decide (K.nc = 1) && (decide ((K.cores 0).slot = 0) && (decide (K.slots = [(1, 2), (2, 1), (1, 1)]) && ((List.range 8).all fun j => decide ((K.cores 0).turns j = 0))))
def labsOf (x : Option (List Ob)) : List Lab := match x with
 | none => []
 | some l => l.map Ob.lab
def calmSee (x : Option Km) : Bool × List Lab × List Lab := match x with
 | none => (false, [], [])
 | some K => (coreChk K && (calmChk K 1 && calmChk K 2), labsOf (K.threadsT 1 0), labsOf (K.threadsT 2 0))
def calmG (c : WCfg) : Bool := match bootAllR (km0 c) [1] c.objs with
 | none => true
 | some p => goodMaps p.2 c.objs
def calmPs (l : List (Lab × Int)) : List ProgK := l.map fun p => ⟨[], p.1, p.2⟩
def CalmW (l : List (Lab × Int)) : Prop := calmSee (newR (worldK (calmPs l) 0)) = (true, (l.filter fun p => decide (p.2 = 0)).map Prod.fst, (l.filter fun p => decide (p.2 = 1)).map Prod.fst) /\ calmG (worldK (calmPs l) 0) = true
theorem calm_shapes (l : List (Lab × Int)) (hl : l.length <= 4) (hh : ∀ p ∈ l, p.2 = 0 \/ p.2 = 1) : CalmW l := by
 match l, hl, hh with
 | [], _, _ => exact ⟨by kernel_rfl, by kernel_rfl⟩
 | [(l1, h1)], _, hh =>
  have e1 : h1 = 0 \/ h1 = 1 := hh (l1, h1) (by simp)
  rcases e1 with rfl | rfl <;> exact ⟨by kernel_rfl, by kernel_rfl⟩
 | [(l1, h1), (l2, h2)], _, hh =>
  have e1 : h1 = 0 \/ h1 = 1 := hh (l1, h1) (by simp)
  have e2 : h2 = 0 \/ h2 = 1 := hh (l2, h2) (by simp)
  rcases e1 with rfl | rfl <;> rcases e2 with rfl | rfl <;> exact ⟨by kernel_rfl, by kernel_rfl⟩
 | [(l1, h1), (l2, h2), (l3, h3)], _, hh =>
  have e1 : h1 = 0 \/ h1 = 1 := hh (l1, h1) (by simp)
  have e2 : h2 = 0 \/ h2 = 1 := hh (l2, h2) (by simp)
  have e3 : h3 = 0 \/ h3 = 1 := hh (l3, h3) (by simp)
  rcases e1 with rfl | rfl <;> rcases e2 with rfl | rfl <;> rcases e3 with rfl | rfl <;> exact ⟨by kernel_rfl, by kernel_rfl⟩
 | [(l1, h1), (l2, h2), (l3, h3), (l4, h4)], _, hh =>
  have e1 : h1 = 0 \/ h1 = 1 := hh (l1, h1) (by simp)
  have e2 : h2 = 0 \/ h2 = 1 := hh (l2, h2) (by simp)
  have e3 : h3 = 0 \/ h3 = 1 := hh (l3, h3) (by simp)
  have e4 : h4 = 0 \/ h4 = 1 := hh (l4, h4) (by simp)
  rcases e1 with rfl | rfl <;> rcases e2 with rfl | rfl <;> rcases e3 with rfl | rfl <;> rcases e4 with rfl | rfl <;> exact ⟨by kernel_rfl, by kernel_rfl⟩
 | _ :: _ :: _ :: _ :: _ :: _, hl, _ => simp at hl
structure CalmK (K : Km) : Prop where
 nc : K.nc = 1
 slots : K.slots = [(1, 2), (2, 1), (1, 1)]
 slot : 0 <= (K.cores 0).slot /\ (K.cores 0).slot < 3
 turns : ∀ j, j < 8 -> (K.cores 0).turns j = 0
 one : ∃ os, K.threadsT 1 0 = some os /\ os.length <= 100 /\ (os.map Ob.name).Nodup /\ ∀ o ∈ os, o.kind = 3 /\ o.th.cont.phase = 0 /\ o.th.state = 1 /\ insNext K o = some (o.th, 2)
 two : ∃ os, K.threadsT 2 0 = some os /\ os.length <= 100 /\ (os.map Ob.name).Nodup /\ ∀ o ∈ os, o.kind = 3 /\ o.th.cont.phase = 0 /\ o.th.state = 1 /\ insNext K o = some (o.th, 2)
 all : AllOk K
theorem calmChk_spec {K : Km} {c : Int} {ls : List Lab} (h : calmChk K c = true) (hl : labsOf (K.threadsT c 0) = ls) (hg : ∀ l ∈ ls, goodLab l) :
  ∃ os, K.threadsT c 0 = some os /\ os.length <= 100 /\ (os.map Ob.name).Nodup /\ ∀ o ∈ os, o.kind = 3 /\ o.th.cont.phase = 0 /\ o.th.state = 1 /\ insNext K o = some (o.th, 2) := by
 unfold calmChk at h
 cases ht : K.threadsT c 0 with
 | none => rw [ht] at h; cases h
 | some os =>
  rw [ht] at h hl
  simp only [Bool.and_eq_true, decide_eq_true_eq, List.all_eq_true] at h
  obtain ⟨h1, h2, h3⟩ := h
  refine ⟨os, rfl, h1, h2, fun o ho => ?_⟩
  obtain ⟨a1, a2, a3, a4, a5⟩ := h3 o ho
  exact ⟨a1, a2, a3, haltChk_ins a5 (good_reads (hg _ (by rw [<- hl]; exact List.mem_map.2 ⟨o, ho, rfl⟩))) a4⟩
theorem calm_new (l : List (Lab × Int)) (hg : ∀ p ∈ l, goodLab p.1) : ∃ K, newK (worldK (calmPs l) 0) = some K /\ CalmK K := by
 obtain ⟨m, hm⟩ : ∃ m : List (Lab × Int), m = (l.take 4).map fun p => (p.1, p.2 % 2) := ⟨_, rfl⟩
 have hw : worldK (calmPs l) 0 = worldK (calmPs m) 0 := by
  have hP : ∀ (k : List (Lab × Int)) (n : Int), worldP n (calmPs k) = worldP n (calmPs (k.map fun p => (p.1, p.2 % 2))) := by
   intro k
   induction k with
   | nil => intro n; rfl
   | cons p r ih =>
    intro n
    show worldO n ⟨[], p.1, p.2⟩ ++ worldP (n + 3) (calmPs r) = worldO n ⟨[], p.1, p.2 % 2⟩ ++ worldP (n + 3) (calmPs (r.map fun p => (p.1, p.2 % 2)))
    rw [ih (n + 3)]
    congr 1
    unfold worldO
    simp only [Int.emod_emod_of_dvd _ (show (2 : Int) ∣ 2 from ⟨1, by decide⟩)]
  have ht : (calmPs l).take 4 = calmPs (l.take 4) := by unfold calmPs; rw [List.map_take]
  have ht2 : (calmPs m).take 4 = calmPs m := by
   refine List.take_of_length_le ?_
   unfold calmPs
   rw [List.length_map, hm, List.length_map, List.length_take]
   omega
  unfold worldK
  rw [ht, ht2, hP (l.take 4), <- hm]
 have hlen : m.length <= 4 := by rw [hm, List.length_map, List.length_take]; omega
 have hh : ∀ p ∈ m, p.2 = 0 \/ p.2 = 1 := fun p hp => by
  rw [hm, List.mem_map] at hp
  obtain ⟨q, -, rfl⟩ := hp
  show q.2 % 2 = 0 \/ q.2 % 2 = 1
  omega
 have hgm : ∀ p ∈ m, goodLab p.1 := fun p hp => by
  rw [hm, List.mem_map] at hp
  obtain ⟨q, hq, rfl⟩ := hp
  exact hg q (List.mem_of_mem_take hq)
 obtain ⟨h1, h2⟩ := calm_shapes m hlen hh
 have hgp : ∀ p ∈ calmPs m, goodP p := fun p hp => by
  obtain ⟨q, hq, rfl⟩ := List.mem_map.1 hp
  exact ⟨hgm q hq, hh q hq⟩
 have hnew := worldK_new (calmPs m) 0 hgp
 rw [hw, hnew]
 rw [<- hnew] at h1 ⊢
 cases hK : newK (worldK (calmPs m) 0) with
 | none => rw [hK] at h1; cases h1
 | some K =>
  rw [hK] at h1
  unfold calmSee at h1
  simp only [Prod.mk.injEq, Bool.and_eq_true] at h1
  obtain ⟨⟨c1, c2, c3⟩, e1, e2⟩ := h1
  unfold coreChk at c1
  simp only [Bool.and_eq_true, decide_eq_true_eq, List.all_eq_true, List.mem_range] at c1
  obtain ⟨d1, d2, d3, d4⟩ := c1
  refine ⟨K, rfl, d1, d3, ⟨by omega, by omega⟩, d4, calmChk_spec c2 e1 (fun l hl => ?_), calmChk_spec c3 e2 (fun l hl => ?_), ?_⟩
  ·obtain ⟨p, hp, rfl⟩ := List.mem_map.1 hl
   exact hgm p (List.mem_filter.1 hp).1
  ·obtain ⟨p, hp, rfl⟩ := List.mem_map.1 hl
   exact hgm p (List.mem_filter.1 hp).1
  ·refine newK_all hK (fun K1 made hb => ?_)
   unfold calmG at h2
   rw [<- bootAllR_eq _ _ _ (fun o ho => (worldK_labs (calmPs m) 0 hgp o ho).1), hb] at h2
   exact h2
theorem CalmK.tick {K : Km} (h : CalmK K) : CalmK (K.tick 0) := by
 have ho : (K.tick 0).obj = K.obj := by unfold Km.tick; simp only; split <;> rfl
 have hn : (K.tick 0).nc = K.nc := by unfold Km.tick; simp only; split <;> rfl
 have hs : (K.tick 0).slots = K.slots := by unfold Km.tick; simp only; split <;> rfl
 have ht : ((K.tick 0).cores 0).turns = (K.cores 0).turns := by unfold Km.tick; simp only; split <;> rfl
 have hsl : 0 <= ((K.tick 0).cores 0).slot /\ ((K.tick 0).cores 0).slot < 3 := by
  have h1 := h.slot
  unfold Km.tick
  simp only
  split
  ·exact h1
  ·show 0 <= ((K.cores 0).slot + 1) % (K.slots.length : Int) /\ ((K.cores 0).slot + 1) % (K.slots.length : Int) < 3
   rw [h.slots]
   show 0 <= ((K.cores 0).slot + 1) % 3 /\ ((K.cores 0).slot + 1) % 3 < 3
   omega
 have hT : ∀ c on, (K.tick 0).threadsT c on = K.threadsT c on := fun c on => by
  have hk : ∀ l, (K.tick 0).kidsT l = K.kidsT l := fun l => by
   induction l with
   | nil => rfl
   | cons n r ih => unfold Km.kidsT; rw [ho, ih]
  unfold Km.threadsT
  rw [ho]
  simp only [hk]
 have hi : ∀ o, insNext (K.tick 0) o = insNext K o := fun o => insNext_congr (fun n => by rw [ho]; exact OptVW.refl _) (fun n => by rw [ho])
 refine ⟨hn.trans h.nc, hs.trans h.slots, hsl, fun j hj => by rw [ht]; exact h.turns j hj, ?_, ?_, h.all.tick 0⟩
 ·rw [hT]; simp only [hi]; exact h.one
 ·rw [hT]; simp only [hi]; exact h.two
theorem CalmK.at {K : Km} (h : CalmK K) (hn : ∀ n o, K.obj n = some o -> o.name = n) : ∃ c os, (K.slots.getD (K.cores 0).slot.toNat (0, 0)).1 = c /\ CalmAt K c os /\ CalmSt K os 0 K := by
 have h1 := h.slot
 have hc : (K.slots.getD (K.cores 0).slot.toNat (0, 0)).1 = 1 \/ (K.slots.getD (K.cores 0).slot.toNat (0, 0)).1 = 2 := by
  rw [h.slots]
  have : (K.cores 0).slot = 0 \/ (K.cores 0).slot = 1 \/ (K.cores 0).slot = 2 := by omega
  rcases this with e | e | e <;> rw [e]
  ·exact .inl rfl
  ·exact .inr rfl
  ·exact .inl rfl
 have hst : ∀ os, CalmSt K os 0 K := fun os => ⟨rfl, rfl, rfl, h.turns _ (by omega), fun n => by
  cases K.obj n with
  | none => rfl
  | some o => simp [haltI]⟩
 rcases hc with e | e
 ·obtain ⟨os, a1, a2, a3, a4⟩ := h.one
  exact ⟨1, os, e, ⟨h.nc, e, a1, a2, a4, a3, hn⟩, hst os⟩
 ·obtain ⟨os, a1, a2, a3, a4⟩ := h.two
  exact ⟨2, os, e, ⟨h.nc, e, a1, a2, a4, a3, hn⟩, hst os⟩
end Go.Proofs.YtmlcgebahdcmaaaGreatDoor
namespace Go.Proofs.YtmlcgebahdcmaaaGreatDoor.kernelPicks
open Go.ChangeShapes Go.WideShapes Go.ChangeAt Go.RowKit
set_option maxRecDepth 100000
theorem in_place : (Rows.kernelPicksRow.inPlace == Tryz.prog.inPlace 3) = true := by kernel_rfl
theorem not_followed : (Rows.kernelPicksRow.unfollowed == Tryz.prog.unfollowed 3) = true := by kernel_rfl
theorem may_recurse : (Rows.kernelPicksRow.recurses == Tryz.prog.recurses 3) = true := by kernel_rfl
theorem vars_named : (Rows.kernelPicksRow.named == Tryz.prog.varsNamed 3) = true := by kernel_rfl
theorem facts : joinedFacts Tryz.prog 3 Tryz.f3 Rows.kernelPicksSpec Rows.kernelPicksRow = true := by
 unfold joinedFacts
 rw [in_place, not_followed, may_recurse, vars_named]
 kernel_rfl
end Go.Proofs.YtmlcgebahdcmaaaGreatDoor.kernelPicks
