/- Of the proof of this claim: a joined text. -/
import Derived.Test.YtmlcgebahdcmaaaGreatDoorZzNe
set_option maxRecDepth 100000
namespace Go.Proofs.YtmlcgebahdcmaaaGreatDoor
open Go.RowKit
def obOk (o : Ob) : Bool := o.maps.all (fun m => m.fits) && decide (o.maps.length <= 1000000)
def AllOk (K : Km) : Prop := ∀ n s, K.obj n = some s -> obOk s = true
theorem AllOk.kok {K : Km} (h : AllOk K) : KOk K := by
 have h2 : ∀ n s, K.obj n = some s -> (∀ m ∈ s.maps, m.fits = true) /\ s.maps.length <= 1000000 := fun n s hs => by
  have := h n s hs
  unfold obOk at this
  simpa using this
 exact ⟨fun n o ho => (h2 n o ho).1, fun n s hs => (h2 n s hs).2⟩
theorem AllOk.set {K : Km} (h : AllOk K) {o : Ob} (ho : obOk o = true) : AllOk (K.set o) := fun n s hs => by
 unfold Km.set at hs
 simp only at hs
 by_cases e : n = o.name
 ·rw [if_pos e] at hs; cases hs; exact ho
 ·rw [if_neg e] at hs; exact h n s hs
theorem AllOk.place {K K' : Km} {h x : Ob} {kind : Int} {l : Lab} {n count : Int} (hK : AllOk K) (hh : obOk h = true) (e : K.place h kind l n count = .ok K' x) : AllOk K' /\ x.maps = [] := by
 obtain ⟨a1, a2, a3, a4, a5, rfl, rfl⟩ := place_spec e
 refine ⟨?_, rfl⟩
 exact (hK.set (o := newOb h kind l n count) rfl).set (o := homeOb h kind n count) hh
theorem ok_nil {o : Ob} (h : o.maps = []) : obOk o = true := by unfold obOk; rw [h]; rfl
theorem AllOk.bootOne {K K' : Km} {made made' : List Int} {o : WObj} (hK : AllOk K) (e : bootOne K made o = some (K', made')) : AllOk K' := by
 unfold Go.Proofs.YtmlcgebahdcmaaaGreatDoor.bootOne at e
 split at e
 ·split at e
  ·cases e
  ·rename_i h hh
   split at e
   ·split at e
    ·rename_i K1 x hp
     obtain ⟨h1, h2⟩ := hK.place (hK _ _ hh) hp
     simp only [Option.some.injEq, Prod.mk.injEq] at e
     obtain ⟨rfl, -⟩ := e
     split
     ·exact h1.set (ok_nil h2)
     ·split
      ·exact h1
      ·exact h1
    ·cases e
   ·cases e
 ·cases e
theorem AllOk.bootAll : ∀ {os : List WObj} {K K' : Km} {made made' : List Int}, AllOk K -> bootAll K made os = some (K', made') -> AllOk K'
 | [], K, K', made, made', h, e => by
  unfold Go.Proofs.YtmlcgebahdcmaaaGreatDoor.bootAll at e; cases e; exact h
 | o :: os, K, K', made, made', h, e => by
  unfold Go.Proofs.YtmlcgebahdcmaaaGreatDoor.bootAll at e
  split at e
  ·rename_i K1 m1 h1
   exact AllOk.bootAll (h.bootOne h1) e
  ·cases e
def goodMaps (made : List Int) (os : List WObj) : Bool := os.all fun o => o.maps.all fun m => (mapFill made m).fits
theorem AllOk.fillOne {K K' : Km} {made : List Int} {cores : Int} {i : Nat} {o : WObj} (hK : AllOk K) (hg : (o.maps.all fun m => (mapFill made m).fits) = true) (e : fillOne K made cores i o = some K') : AllOk K' := by
 unfold Go.Proofs.YtmlcgebahdcmaaaGreatDoor.fillOne at e
 split at e
 ·cases e
 ·rename_i x hx
  split at e
  ·rename_i hc
   simp only [Option.some.injEq] at e
   subst e
   have hxo := hK _ _ hx
   split
   ·rename_i hk
    refine hK.set ?_
    unfold obOk at hxo ⊢
    simp only [Bool.and_eq_true, List.all_append, List.all_map, decide_eq_true_eq] at hxo ⊢
    refine ⟨⟨hxo.1, by simpa [Function.comp_def] using hg⟩, ?_⟩
    rw [Bool.and_eq_true] at hc
    have hf := hc.2
    unfold fillOk at hf
    simp [hk] at hf
    simp
    omega
   ·split
    ·exact hK.set hxo
    ·exact hK
  ·cases e
theorem AllOk.fillAll : ∀ {os : List WObj} {K K' : Km} {made : List Int} {cores : Int} {i : Nat}, AllOk K -> goodMaps made os = true -> fillAll K made cores i os = some K' -> AllOk K'
 | [], K, K', made, cores, i, h, hg, e => by
  unfold Go.Proofs.YtmlcgebahdcmaaaGreatDoor.fillAll at e; cases e; exact h
 | o :: os, K, K', made, cores, i, h, hg, e => by
  unfold goodMaps at hg
  rw [List.all_cons, Bool.and_eq_true] at hg
  unfold Go.Proofs.YtmlcgebahdcmaaaGreatDoor.fillAll at e
  split at e
  ·rename_i K1 h1
   exact AllOk.fillAll (h.fillOne hg.1 h1) hg.2 e
  ·cases e
theorem newK_kok {c : WCfg} {K : Km} (h : newK c = some K) (hg : ∀ K1 made, bootAll (km0 c) [1] c.objs = some (K1, made) -> goodMaps made c.objs = true) : KOk K := by
 obtain ⟨hr, K1, made, K2, h1, h2, h3, rfl⟩ := newK_spec h
 have h0 : AllOk (km0 c) := fun n s hs => by
  unfold km0 at hs
  simp only at hs
  split at hs
  ·cases hs; rfl
  ·cases hs
 have hB := AllOk.fillAll (h0.bootAll h1) (hg _ _ h1) h2
 exact AllOk.kok (K := startK K2 c made) hB
theorem kidsT_mem {K : Km} : ∀ {l : List Int} {os : List Ob}, K.kidsT l = some os -> ∀ o ∈ os, ∃ n, K.obj n = some o
 | [], os, h, o, ho => by cases h; cases ho
 | n :: r, os, h, o, ho => by
  unfold Km.kidsT at h
  cases e : K.obj n with
  | none => rw [e] at h; cases h
  | some x =>
   rw [e] at h
   cases e2 : K.kidsT r with
   | none => rw [e2] at h; cases h
   | some t =>
    rw [e2] at h
    simp only [Option.map_some, Option.some.injEq] at h
    subst h
    rcases List.mem_cons.1 ho with rfl | ho
    ·exact ⟨n, e⟩
    ·exact kidsT_mem e2 o ho
theorem threadsT_mem {K : Km} {c on : Int} {l : List Ob} (h : K.threadsT c on = some l) : ∀ o ∈ l, ∃ n, K.obj n = some o := fun o ho => by
 unfold Km.threadsT at h
 cases hc : K.obj c with
 | none => rw [hc] at h; cases h; cases ho
 | some x =>
  rw [hc] at h
  simp only at h
  split at h
  ·split at h
   ·cases hk : K.kidsT x.kids with
    | none => rw [hk] at h; cases h
    | some os =>
     rw [hk] at h
     simp only [Option.map_some, Option.some.injEq] at h
     subst h
     exact kidsT_mem hk o (List.mem_filter.1 ho).1
   ·cases h
  ·cases h; cases ho
theorem whoseT_mem {K : Km} {i : Nat} {o : Ob} (h : K.whoseT i = some (some o)) : ∃ n, K.obj n = some o := by
 unfold Km.whoseT at h
 split at h
 ·cases h
 ·cases h
 ·rename_i x l hl
  simp only [Option.some.injEq] at h
  exact threadsT_mem hl o (List.mem_of_getElem? h)
theorem AllOk.obj {K K' : Km} (h : AllOk K) (e : K'.obj = K.obj) : AllOk K' := fun n s hs => h n s (by rw [<- e]; exact hs)
theorem AllOk.tick {K : Km} (h : AllOk K) (i : Nat) : AllOk (K.tick i) := by
 refine h.obj ?_
 unfold Km.tick
 simp only
 split <;> rfl
theorem AllOk.userT {K K' : Km} {o : Ob} {x : Int} (h : AllOk K) (ho : obOk o = true) (e : K.userT o = some (K', x)) : AllOk K' := by
 unfold Km.userT at e
 cases hi : insNext K o with
 | none => rw [hi] at e; cases e
 | some p =>
  rw [hi] at e
  simp only [Option.map_some, Option.some.injEq] at e
  have hw : ∀ t, obOk (o.wTh t) = true := fun t => ho
  split at e
  ·cases e; exact h.set (hw _)
  ·split at e
   ·cases e; exact h.set (hw _)
   ·split at e
    ·cases e; exact h.set (hw _)
    ·cases e; exact h.set (hw _)
theorem AllOk.pickT {mic : Km -> Ob -> Option (Km × Int)} {wt : Km -> Ob -> Nat -> Option (Km × Int)} (hm : ∀ K K' o x, AllOk K -> obOk o = true -> mic K o = some (K', x) -> AllOk K') (hw : ∀ K K' o i x, AllOk K -> obOk o = true -> wt K o i = some (K', x) -> AllOk K')
  {K K' : Km} {i : Nat} {ev : Ev} (h : AllOk K) (e : K.pickT mic wt i = some (K', ev)) : AllOk K' := by
 have hp : AllOk (K.picked i) := h.obj rfl
 have hn : ∀ Q : Km, AllOk Q -> AllOk (Q.nextTurn i) := fun Q hQ => hQ.obj rfl
 unfold Km.pickT at e
 split at e
 ·cases e
 ·cases e; exact hn _ hp
 ·rename_i o ho
  obtain ⟨n, hno⟩ := whoseT_mem ho
  have hob := hp _ _ hno
  split at e
  ·cases e
  ·rename_i p hd
   split at e
   ·cases e
    refine hn _ ?_
    unfold doT at hd
    split at hd
    ·exact hm _ _ _ _ hp hob hd
    ·split at hd
     ·exact hw _ _ _ _ _ hp hob hd
     ·split at hd
      ·exact hp.userT hob hd
      ·cases hd; exact hp
   ·cases e
def bootOkR (o : WObj) (n : Nat) : Bool :=
 decide (0 <= o.parent /\ o.parent < (n : Int)) &&
  ((decide (o.kind = 1) && decide (0 <= o.pages /\ 0 <= o.names)) || (decide (o.kind = 2) && decide (0 <= o.pages /\ o.pages <= 16 /\ (o.data.length : Int) <= o.pages * 64)) || decide (o.kind = 3) || decide (o.kind = 4) || decide (o.kind = 6))
def bootOneR (K : Km) (made : List Int) (o : WObj) : Option (Km × List Int) :=
 if bootOkR o made.length = true then
  match K.obj (made.getD o.parent.toNat 0) with
  | none => none
  | some h => if h.kind = 1 then
    match K.place h o.kind o.lab (if o.kind = 1 \/ o.kind = 2 then o.pages else 0) (if o.kind = 1 then o.names else 0) with
    | .ok K' x => some (if o.kind = 2 then K'.set { x with data := dataF o.data } else if o.kind = 6 then { K' with devs := K'.devs ++ [x.name] } else K', made ++ [x.name])
    | _ => none
   else none
 else none
def bootAllR : Km -> List Int -> List WObj -> Option (Km × List Int)
 | K, made, [] => some (K, made)
 | K, made, o :: os => match bootOneR K made o with
  | some (K', made') => bootAllR K' made' os
  | none => none
def fillOkR (o : WObj) (x : Ob) (n : Nat) : Bool :=
 (decide (o.kind = 4) && (decide (o.space = 0) && (o.maps.all (fun m => decide (0 <= m.seg /\ m.seg < (n : Int))) && decide (x.maps.length + o.maps.length <= 1000)))) ||
 (decide (o.kind = 3) && (decide (0 < o.space /\ o.space < (n : Int)) && (decide (0 <= o.pc /\ o.pc < 262144) && decide (x.name <= 4194304)))) ||
 (decide (o.kind ≠ 3 /\ o.kind ≠ 4 /\ o.kind ≠ 5) && decide (o.space = 0))
def fillOneR (K : Km) (made : List Int) (cores : Int) (i : Nat) (o : WObj) : Option Km :=
 match K.obj (made.getD (i + 1) 0) with
 | none => none
 | some x => if (decide (x.kind = o.kind) && fillOkR o x made.length) = true then
   some (if o.kind = 4 then K.set { x with maps := x.maps ++ o.maps.map (mapFill made) } else if o.kind = 3 then K.set (x.wTh (thFill x o made cores)) else K)
  else none
def fillAllR : Km -> List Int -> Int -> Nat -> List WObj -> Option Km
 | K, _, _, _, [] => some K
 | K, made, cores, i, o :: os => match fillOneR K made cores i o with
  | some K' => fillAllR K' made cores (i + 1) os
  | none => none
def newR (c : WCfg) : Option Km :=
 match bootAllR (km0 c) [1] c.objs with
 | none => none
 | some (K, made) => match fillAllR K made c.cores 0 c.objs with
  | none => none
  | some K' => if c.slots.all (fun s => decide (0 <= s.1 /\ s.1 < (made.length : Int))) = true then
    some { K' with nc := c.cores.toNat, cores := fun _ => ⟨0, (c.slots.getD 0 (0, 0)).2, 0, fun _ => 0, 0⟩, slots := c.slots.map fun s => (made.getD s.1.toNat 0, s.2) }
   else none
theorem bootOneR_eq (K : Km) (made : List Int) (o : WObj) (h : o.lab.right = true) : bootOne K made o = bootOneR K made o := by
 have : bootOk o made.length = bootOkR o made.length := by unfold bootOk bootOkR; rw [h, Bool.true_and]
 unfold bootOne bootOneR
 rw [this]
 rfl
theorem bootAllR_eq : ∀ (os : List WObj) (K : Km) (made : List Int), (∀ o ∈ os, o.lab.right = true) -> bootAll K made os = bootAllR K made os
 | [], _, _, _ => rfl
 | o :: os, K, made, h => by
  unfold bootAll bootAllR
  rw [bootOneR_eq K made o (h o (List.mem_cons_self ..))]
  cases bootOneR K made o with
  | none => rfl
  | some p => exact bootAllR_eq os _ _ (fun o ho => h o (List.mem_cons_of_mem _ ho))
theorem fillOneR_eq (K : Km) (made : List Int) (cores : Int) (i : Nat) (o : WObj) (h : o.kind = 3 -> o.clr.right = true) : fillOne K made cores i o = fillOneR K made cores i o := by
 have : ∀ x, fillOk o x made.length = fillOkR o x made.length := fun x => by
  unfold fillOk fillOkR
  by_cases hk : o.kind = 3
  ·rw [h hk, Bool.true_and]
  ·simp [hk]
 unfold fillOne fillOneR
 simp only [this]
 rfl
theorem fillAllR_eq : ∀ (os : List WObj) (K : Km) (made : List Int) (cores : Int) (i : Nat), (∀ o ∈ os, o.kind = 3 -> o.clr.right = true) -> fillAll K made cores i os = fillAllR K made cores i os
 | [], _, _, _, _, _ => rfl
 | o :: os, K, made, cores, i, h => by
  unfold fillAll fillAllR
  rw [fillOneR_eq K made cores i o (h o (List.mem_cons_self ..))]
  cases fillOneR K made cores i o with
  | none => rfl
  | some p => exact fillAllR_eq os _ _ _ _ (fun o ho => h o (List.mem_cons_of_mem _ ho))
theorem newR_eq (c : WCfg) (hr : c.right = true) (h : ∀ o ∈ c.objs, o.lab.right = true /\ (o.kind = 3 -> o.clr.right = true)) : newK c = newR c := by
 unfold newK newR
 rw [if_pos hr, bootAllR_eq _ _ _ (fun o ho => (h o ho).1)]
 cases bootAllR (km0 c) [1] c.objs with
 | none => rfl
 | some p =>
  obtain ⟨K, made⟩ := p
  show (match fillAll K made c.cores 0 c.objs with | none => _ | some K' => _) = _
  rw [fillAllR_eq _ _ _ _ _ (fun o ho => (h o ho).2)]
theorem newK_all {c : WCfg} {K : Km} (h : newK c = some K) (hg : ∀ K1 made, bootAll (km0 c) [1] c.objs = some (K1, made) -> goodMaps made c.objs = true) : AllOk K := by
 obtain ⟨hr, K1, made, K2, h1, h2, h3, rfl⟩ := newK_spec h
 have h0 : AllOk (km0 c) := fun n s hs => by
  unfold km0 at hs
  simp only at hs
  split at hs
  ·cases hs; rfl
  ·cases hs
 exact AllOk.obj (AllOk.fillAll (h0.bootAll h1) (hg _ _ h1) h2) rfl
def Ob.halted (o : Ob) : Ob := o.wTh { o.th with state := 0 }
theorem insNext_congr {K K' : Km} {o : Ob} (hv : ∀ n, OptVW (K.obj n) (K'.obj n)) (hd : ∀ n, (K'.obj n).map Ob.data = (K.obj n).map Ob.data) : insNext K' o = insNext K o := by
 have e1 : ∀ va, K'.whereTo o va = K.whereTo o va := where_congr hv (VW.refl o)
 have e2 : ∀ va, K'.bytes o va = K.bytes o va := fun va => by
  unfold Km.bytes
  rw [e1]
  cases K.whereTo o va with
  | none => rfl
  | some r =>
   obtain ⟨n, a, b⟩ := r
   have := hd n
   cases h1 : K.obj n with
   | none => rw [h1] at this; cases h2 : K'.obj n with
    | none => simp [h1, h2]
    | some y => rw [h2] at this; cases this
   | some x => rw [h1] at this; cases h2 : K'.obj n with
    | none => rw [h2] at this; cases this
    | some y =>
     rw [h2] at this
     simp only [Option.map_some, Option.some.injEq] at this
     simp [h1, h2, this]
 unfold insNext insOne
 simp only [e1, e2]
structure CalmAt (K0 : Km) (c : Int) (os : List Ob) : Prop where
 nc : K0.nc = 1
 sl : (K0.slots.getD (K0.cores 0).slot.toNat (0, 0)).1 = c
 thr : K0.threadsT c 0 = some os
 len : os.length <= 100
 each : ∀ o ∈ os, o.kind = 3 /\ o.th.cont.phase = 0 /\ o.th.state = 1 /\ insNext K0 o = some (o.th, 2)
 nodup : (os.map Ob.name).Nodup
 name : ∀ n o, K0.obj n = some o -> o.name = n
def haltI (os : List Ob) (i : Nat) (o : Ob) : Ob := if o.name ∈ (os.map Ob.name).take i then o.halted else o
structure CalmSt (K0 : Km) (os : List Ob) (i : Nat) (K : Km) : Prop where
 nc : K.nc = K0.nc
 slots : K.slots = K0.slots
 slot : (K.cores 0).slot = (K0.cores 0).slot
 turn : (K.cores 0).turns (K.cores 0).slot.toNat = i
 obj : ∀ n, K.obj n = (K0.obj n).map (haltI os i)
theorem haltI_kind (os : List Ob) (i : Nat) (o : Ob) : (haltI os i o).kind = o.kind /\ (haltI os i o).kids = o.kids /\ (haltI os i o).name = o.name /\ (haltI os i o).data = o.data /\ (haltI os i o).th.on = o.th.on /\ (haltI os i o).th.cont = o.th.cont /\ VW o (haltI os i o) := by
 unfold haltI
 split
 ·exact ⟨rfl, rfl, rfl, rfl, rfl, rfl, rfl, rfl, rfl, rfl, rfl, rfl⟩
 ·exact ⟨rfl, rfl, rfl, rfl, rfl, rfl, rfl, rfl, rfl, rfl, rfl, rfl⟩
theorem kidsT_map {K0 K : Km} {f : Ob -> Ob} (h : ∀ n, K.obj n = (K0.obj n).map f) : ∀ l : List Int, K.kidsT l = (K0.kidsT l).map (List.map f)
 | [] => rfl
 | n :: r => by
  unfold Km.kidsT
  rw [h n, kidsT_map h r]
  cases K0.obj n with
  | none => rfl
  | some o => cases K0.kidsT r <;> rfl
theorem threadsT_map {K0 K : Km} {f : Ob -> Ob} (h : ∀ n, K.obj n = (K0.obj n).map f) (hk : ∀ o, (f o).kind = o.kind /\ (f o).kids = o.kids /\ (f o).th.on = o.th.on) (c on : Int) : K.threadsT c on = (K0.threadsT c on).map (List.map f) := by
 have hon : ∀ o, onCore on (f o) = onCore on o := fun o => by unfold onCore; rw [(hk o).1, (hk o).2.2]
 unfold Km.threadsT
 rw [h c]
 cases K0.obj c with
 | none => rfl
 | some o =>
  simp only [Option.map_some]
  rw [(hk o).1, (hk o).2.1]
  split
  ·split
   ·rw [kidsT_map h]
    cases K0.kidsT o.kids with
    | none => rfl
    | some l =>
     simp only [Option.map_some, Option.some.injEq]
     rw [List.filter_map]
     congr 1
     exact congrArg (fun p => List.filter p l) (funext hon)
   ·rfl
  ·rfl
theorem CalmSt.picked {K0 K : Km} {os : List Ob} {i : Nat} (h : CalmSt K0 os i K) : CalmSt K0 os i (K.picked 0) := by
 refine ⟨h.nc, h.slots, ?_, ?_, h.obj⟩
 ·exact h.slot
 ·exact h.turn
theorem CalmSt.next {K0 K : Km} {os : List Ob} {i : Nat} (h : CalmSt K0 os i K) (hi : i < 1000) (hh : ∀ n, (K0.obj n).map (haltI os i) = (K0.obj n).map (haltI os (i + 1))) : CalmSt K0 os (i + 1) (K.nextTurn 0) := by
 refine ⟨h.nc, h.slots, h.slot, ?_, fun n => (h.obj n).trans (hh n)⟩
 show upd (K.cores 0).turns (K.cores 0).slot.toNat (wu ((K.cores 0).turns (K.cores 0).slot.toNat + 1)) (K.cores 0).slot.toNat = _
 rw [upd_same', h.turn]
 unfold wu
 omega
theorem calm_pick {K0 : Km} {c : Int} {os : List Ob} (h0 : CalmAt K0 c os) {i : Nat} (hi : i < 1000) {K : Km} (h : CalmSt K0 os i K) :
  ∃ K' ev, K.pickT noMic noWt 0 = some (K', ev) /\ CalmSt K0 os (i + 1) K' /\ (os = [] -> ev = ⟨0, 0, 0⟩) /\ ∀ o, os[i % os.length]? = some o -> ev = ⟨0, o.name, if i < os.length then 1 else 0⟩ := by
 have hp := h.picked
 have hkk := haltI_kind os i
 have hth : (K.picked 0).threadsT c ((0 : Nat) : Int) = some (os.map (haltI os i)) := by
  rw [threadsT_map hp.obj (fun o => ⟨(hkk o).1, (hkk o).2.1, (hkk o).2.2.2.2.1⟩), show K0.threadsT c ((0 : Nat) : Int) = some os from h0.thr]; rfl
 have hsl : ((K.picked 0).slots.getD ((K.picked 0).cores 0).slot.toNat (0, 0)).1 = c := by rw [hp.slots, hp.slot]; exact h0.sl
 have hw0 : os = [] -> (K.picked 0).whoseT 0 = some none := fun e => by
  unfold Km.whoseT
  rw [hsl, hth, e]
  rfl
 have hwh : ∀ x l, os = x :: l -> (K.picked 0).whoseT 0 = some ((os.map (haltI os i))[i % os.length]?) := fun x l e => by
  have h1 : (K.picked 0).threadsT c ((0 : Nat) : Int) = some (haltI os i x :: l.map (haltI os i)) := by
   rw [hth, show os.map (haltI os i) = (x :: l).map (haltI os i) from congrArg _ e]; rfl
  have h2 : os.map (haltI os i) = haltI os i x :: l.map (haltI os i) := (show os.map (haltI os i) = (x :: l).map (haltI os i) from congrArg _ e)
  have h3 : os.length = (haltI os i x :: l.map (haltI os i)).length := by rw [<- h2, List.length_map]
  unfold Km.whoseT
  rw [hsl, h1]
  simp only
  rw [hp.turn, h2, h3]
  congr 2
 cases hos : os with
 | nil =>
  subst hos
  refine ⟨(K.picked 0).nextTurn 0, ⟨0, 0, 0⟩, ?_, hp.next hi (fun n => ?_), fun _ => rfl, fun o ho => by simp at ho⟩
  ·unfold Km.pickT
   rw [hw0 rfl]
   rfl
  ·unfold haltI; simp
 | cons x l =>
  rw [<- hos]
  have hpos : 0 < os.length := by rw [hos]; simp
  have hlt : i % os.length < os.length := Nat.mod_lt _ hpos
  obtain ⟨o, ho⟩ : ∃ o, os[i % os.length]? = some o := ⟨_, List.getElem?_eq_getElem hlt⟩
  have hm := List.mem_of_getElem? ho
  obtain ⟨e1, e2, e3, e4⟩ := h0.each o hm
  have hwh2 : (K.picked 0).whoseT 0 = some (some (haltI os i o)) := by
   rw [hwh x l hos, List.getElem?_map, ho]; rfl
  have hobj : K0.obj o.name = some o := by
   obtain ⟨n, hn⟩ := threadsT_mem h0.thr o hm
   rw [h0.name n o hn]; exact hn
  have hnm : (os.map Ob.name)[i % os.length]? = some o.name := by rw [List.getElem?_map, ho]; rfl
  by_cases hin : i < os.length
  ·have hmod : i % os.length = i := Nat.mod_eq_of_lt hin
   rw [hmod] at ho hnm
   have hnot : o.name ∉ (os.map Ob.name).take i := fun hc => by
    obtain ⟨j, hj, e⟩ := List.mem_take_iff_getElem.1 hc
    have hj2 : j < (os.map Ob.name).length := by omega
    have h2 := List.getElem?_eq_getElem hj2
    rw [e] at h2
    have := (List.getElem?_inj hj2 h0.nodup).1 (h2.trans hnm.symm)
    omega
   have hH : haltI os i o = o := if_neg hnot
   rw [hH] at hwh2
   have hins : insNext (K.picked 0) o = some (o.th, 2) := by
    rw [<- e4]
    refine insNext_congr (fun n => ?_) (fun n => ?_)
    ·rw [hp.obj n]
     cases K0.obj n with
     | none => trivial
     | some y => exact (hkk y).2.2.2.2.2.2
    ·rw [hp.obj n]
     cases K0.obj n with
     | none => rfl
     | some y => simp [(hkk y).2.2.2.1]
   have hus : (K.picked 0).userT o = some ((K.picked 0).set o.halted, 1) := by
    unfold Km.userT
    rw [hins]
    rfl
   have hdo : doT noMic noWt (K.picked 0) o 0 = some ((K.picked 0).set o.halted, 1) := by
    unfold doT
    rw [e2, e3, hus]
    rfl
   have htk : (os.map Ob.name).take (i + 1) = (os.map Ob.name).take i ++ [o.name] := by
    rw [List.take_add_one, hnm]; rfl
   refine ⟨((K.picked 0).set o.halted).nextTurn 0, ⟨0, o.name, 1⟩, ?_, ?_, (fun e => by rw [e] at hpos; cases hpos), fun o' ho' => ?_⟩
   ·unfold Km.pickT
    rw [hwh2]
    simp only
    rw [hdo]
    simp only
    rw [if_pos (by show 0 < (K.picked 0).nc; rw [hp.nc, h0.nc]; decide)]
    rfl
   ·have hst : CalmSt K0 os i (K.picked 0) := hp
    refine ⟨hst.nc, hst.slots, hst.slot, ?_, fun n => ?_⟩
    ·show upd (K.cores 0).turns (K.cores 0).slot.toNat (wu ((K.cores 0).turns (K.cores 0).slot.toNat + 1)) (K.cores 0).slot.toNat = _
     rw [upd_same', h.turn]
     unfold wu
     omega
    ·show (if n = o.name then some o.halted else (K.picked 0).obj n) = _
     by_cases en : n = o.name
     ·rw [if_pos en, en, hobj]
      show some o.halted = some (haltI os (i + 1) o)
      unfold haltI
      rw [if_pos (by rw [htk]; simp)]
     ·rw [if_neg en, hp.obj n]
      cases hn : K0.obj n with
      | none => rfl
      | some y =>
       have hy := h0.name n y hn
       show some (haltI os i y) = some (haltI os (i + 1) y)
       have : (y.name ∈ (os.map Ob.name).take (i + 1)) ↔ (y.name ∈ (os.map Ob.name).take i) := by
        rw [htk, List.mem_append, List.mem_singleton, hy]
        exact ⟨fun q => q.elim id (fun q => absurd q en), .inl⟩
       unfold haltI
       simp only [this]
   ·rw [hmod, ho] at ho'
    cases ho'
    rw [if_pos hin]
  ·have hge : os.length <= i := by omega
   have hall : ∀ j, os.length <= j -> (os.map Ob.name).take j = os.map Ob.name := fun j hj => List.take_of_length_le (by simpa using hj)
   have hH : haltI os i o = o.halted := by
    unfold haltI
    rw [hall i hge, if_pos (List.mem_map.2 ⟨o, hm, rfl⟩)]
   rw [hH] at hwh2
   have hdo : doT noMic noWt (K.picked 0) o.halted 0 = some (K.picked 0, 0) := by
    unfold doT
    show (if 0 < o.th.cont.phase then _ else _) = _
    rw [e2]
    rfl
   refine ⟨(K.picked 0).nextTurn 0, ⟨0, o.name, 0⟩, ?_, hp.next hi (fun n => ?_), (fun e => by rw [e] at hpos; cases hpos), fun o' ho' => ?_⟩
   ·unfold Km.pickT
    rw [hwh2]
    simp only
    rw [hdo]
    simp only
    rw [if_pos (by rw [hp.nc, h0.nc]; decide)]
    rfl
   ·unfold haltI
    rw [hall i hge, hall (i + 1) (by omega)]
   ·rw [ho] at ho'
    cases ho'
    rw [if_neg hin]
def goodLab (l : Lab) : Prop := l.right = true /\ labOne.leq l.rest = true
theorem bothF_nil (a d : Nat) : ∀ (g : Nat) (s : List (Nat × Nat)), s.length <= g -> bothF a d g [] s = s.map fun p => (p.1, a, p.2)
 | g, [], _ => by cases g <;> rfl
 | 0, p :: s, h => by simp at h
 | g + 1, (e, y) :: s, h => by
  show (e, a, y) :: bothF a d g [] s = _
  rw [bothF_nil a d g s (by simpa using h)]
  rfl
theorem leq_none (d : Nat) (l : Lab) : Lab.leq ⟨d, []⟩ l = (decide (d <= l.d) && l.ps.all fun p => decide (d <= p.2)) := by
 unfold Lab.leq bothL
 rw [bothF_nil _ _ _ _ (by simp)]
 rw [List.all_map]
 rfl
theorem good_levels {l : Lab} (h : goodLab l) : 2 <= l.d /\ ∀ p ∈ l.ps, p.2 = 0 \/ 2 <= p.2 := by
 obtain ⟨h1, h2⟩ := h
 obtain ⟨⟨d1, d4⟩, -, -⟩ := Lab.right_spec h1
 unfold labOne at h2
 rw [leq_none] at h2
 simp only [Bool.and_eq_true, decide_eq_true_eq, List.all_eq_true] at h2
 obtain ⟨h3, h4⟩ := h2
 have hd : l.rest.d = l.d := by show (if l.d = 0 then 2 else l.d) = l.d; rw [if_neg (by omega)]
 rw [hd] at h3
 refine ⟨h3, fun p hp => ?_⟩
 by_cases h0 : p.2 = 0
 ·exact .inl h0
 ·by_cases h5 : p.2 = l.d
  ·exact .inr (by omega)
  ·refine .inr (h4 (p.1, p.2) ?_)
   unfold Lab.rest
   rw [merge_self, List.mem_filterMap]
   refine ⟨p, hp, ?_⟩
   show (if (if p.2 = 0 then 2 else p.2) = (if l.d = 0 then 2 else l.d) then none else some (p.1, if p.2 = 0 then 2 else p.2)) = _
   rw [if_neg h0, if_neg (by omega : ¬ l.d = 0), if_neg h5]
theorem good_reads {l : Lab} (h : goodLab l) : readsL l labOne = true := by
 obtain ⟨h1, h2⟩ := good_levels h
 unfold readsL labOne
 rw [leq_none]
 simp only [Bool.and_eq_true, decide_eq_true_eq, List.all_eq_true]
 refine ⟨?_, fun p hp => ?_⟩
 ·show 2 <= (if l.d = 0 then 5 else l.d)
  split <;> omega
 ·unfold Lab.raise at hp
  rw [merge_self, List.mem_filterMap] at hp
  obtain ⟨q, hq, e⟩ := hp
  have e' : (if (if q.2 = 0 then 5 else q.2) = (if l.d = 0 then 5 else l.d) then none else some (q.1, if q.2 = 0 then 5 else q.2)) = some p := e
  by_cases hc : (if q.2 = 0 then 5 else q.2) = (if l.d = 0 then 5 else l.d)
  ·rw [if_pos hc] at e'; cases e'
  ·rw [if_neg hc] at e'
   simp only [Option.some.injEq] at e'
   subst e'
   show 2 <= (if q.2 = 0 then 5 else q.2)
   rcases h2 q hq with h | h
   ·rw [if_pos h]; omega
   ·split <;> omega
theorem bothF_nilr (d b : Nat) : ∀ (g : Nat) (s : List (Nat × Nat)), s.length <= g -> bothF d b g s [] = s.map fun p => (p.1, p.2, b)
 | g, [], _ => by cases g <;> rfl
 | 0, p :: s, h => by simp at h
 | g + 1, (e, y) :: s, h => by
  show (e, y, b) :: bothF d b g s [] = _
  rw [bothF_nilr d b g s (by simpa using h)]
  rfl
theorem good_three {l : Lab} (h : l.right = true) : l.leq labThree = true := by
 obtain ⟨⟨d1, d4⟩, -, h3⟩ := Lab.right_spec h
 unfold Lab.leq labThree bothL
 rw [bothF_nilr _ _ _ _ (by simp), List.all_map]
 simp only [Bool.and_eq_true, decide_eq_true_eq, List.all_eq_true]
 exact ⟨d4, fun p hp => by simpa using (h3 p hp).2⟩
def goodP (p : ProgK) : Prop := goodLab p.lab /\ (p.home = 0 \/ p.home = 1)
theorem codeU_len (ls : List Line) : ((codeU ls).take 576).length <= 576 := by rw [List.length_take]; omega
theorem objsR_app (os : List WObj) : ∀ (l m : List WObj) (i : Nat), objsR os i (l ++ m) = (objsR os i l && objsR os (i + l.length) m)
 | [], m, i => by simp [objsR]
 | o :: l, m, i => by
  show (objR os i o && objsR os (i + 1) (l ++ m)) = ((objR os i o && objsR os (i + 1) l) && objsR os (i + (l.length + 1)) m)
  rw [objsR_app os l m (i + 1), Bool.and_assoc]
  congr 3; omega
theorem worldP_len : ∀ (l : List ProgK) (n : Int), (worldP n l).length = 3 * l.length
 | [], _ => rfl
 | p :: r, n => by
  show (worldO n p ++ worldP (n + 3) r).length = _
  rw [List.length_append, worldP_len r, List.length_cons]
  show 3 + _ = _; omega
def worldH : List WObj := [{ obj0 1 with lab := labOne, pages := 120, names := 40 }, { obj0 2 with lab := labOne, pages := 2, data := labelsB }, { obj0 2 with lab := labUp, pages := 1, data := [1, 2, 3] }, { obj0 6 with lab := labUp }]
theorem worldK_objs (l : List ProgK) (c : Int) : (worldK l c).objs = worldH ++ worldP 4 (l.take 4) := rfl
theorem one_fits : labOne.right = true /\ labOne.leq labOne.rest = true /\ labOne.plain = true /\ labThree.right = true := by decide
theorem objR_seg {os : List WObj} {j : Nat} {o : WObj} (hk : o.kind = 2) (hh : homeL os j o = some labOne) (hl : o.lab = labOne) (hp : 0 <= o.pages /\ o.pages <= 16 /\ (o.data.length : Int) <= o.pages * 64) : objR os j o = true := by
 unfold objR
 rw [hh]
 simp only
 rw [hl, if_neg (by omega), if_pos hk, one_fits.1, one_fits.2.1, one_fits.2.2.1, decide_eq_true hp]
 rfl
theorem objR_space {os : List WObj} {j : Nat} {o : WObj} (hk : o.kind = 4) (hh : homeL os j o = some labOne) (hl : o.lab = labOne) (hm : mapsRight o.maps = true) (ha : (o.maps.all fun m => decide (m.seg <= (os.length : Int))) = true) : objR os j o = true := by
 unfold objR
 rw [hh]
 simp only
 rw [hl, if_neg (by omega), if_neg (by omega), if_pos hk, one_fits.1, one_fits.2.1, one_fits.2.2.1, hm, ha]
 rfl
theorem objR_thr {os : List WObj} {j : Nat} {o : WObj} (hk : o.kind = 3) (hh : homeL os j o = some labOne) (hr : o.lab.right = true) (hl : labOne.leq o.lab.rest = true) (hc : o.clr = labThree) (h3 : o.lab.leq labThree = true) (hp : 0 <= o.pc /\ o.pc < 262144 /\ 0 <= o.space /\ o.space <= (os.length : Int)) : objR os j o = true := by
 unfold objR
 rw [hh]
 simp only
 rw [hc, if_neg (by omega), if_neg (by omega), if_neg (by omega), if_pos (.inl hk), one_fits.2.2.2, hr, hl, h3, decide_eq_true hp]
 rfl
theorem worldO_right {os : List WObj} {i : Nat} (p : ProgK) (hp : goodP p) (h0 : ∃ r, os = worldH ++ r) (hi : 4 <= i) (hn : (i : Int) + 3 <= os.length) : objsR os i (worldO i p) = true := by
 obtain ⟨r, rfl⟩ := h0
 obtain ⟨⟨h1, h2⟩, h3⟩ := hp
 have hm : p.home % 2 = 0 \/ p.home % 2 = 1 := by omega
 have hh : homeL (worldH ++ r) i { obj0 3 with lab := p.lab, clr := labThree, parent := p.home % 2, space := (i : Int) + 2 } = some labOne := by
  unfold homeL
  rcases hm with e | e
  ·show (if p.home % 2 = 0 then _ else _) = _
   rw [if_pos e]; rfl
  ·show (if p.home % 2 = 0 then _ else if p.home % 2 < 0 \/ (i : Int) < p.home % 2 then _ else match (worldH ++ r)[(p.home % 2).toNat - 1]? with | some p => _ | none => _) = _
   rw [e, if_neg (by decide), if_neg (by omega)]
   rfl
 have h4 := good_three h1
 have ho : ∀ j : Nat, homeL (worldH ++ r) j { obj0 4 with lab := labOne, maps := [⟨0, (i : Int) + 3, 0, 9, false⟩, ⟨32, 2, 0, 2, true⟩, ⟨34, 3, 0, 1, true⟩] } = some labOne := fun j => rfl
 have ho2 : ∀ j : Nat, homeL (worldH ++ r) j { obj0 2 with lab := labOne, pages := 9, data := (codeU p.lines).take 576 } = some labOne := fun j => rfl
 have hl := codeU_len p.lines
 have e1 : objR (worldH ++ r) i { obj0 3 with lab := p.lab, clr := labThree, parent := p.home % 2, space := (i : Int) + 2 } = true :=
  objR_thr rfl hh h1 h2 rfl h4 ⟨Int.le_refl 0, by show (0 : Int) < 262144; decide, by show (0 : Int) <= (i : Int) + 2; omega, by show (i : Int) + 2 <= _; omega⟩
 have e2 : ∀ j, objR (worldH ++ r) j { obj0 4 with lab := labOne, maps := [⟨0, (i : Int) + 3, 0, 9, false⟩, ⟨32, 2, 0, 2, true⟩, ⟨34, 3, 0, 1, true⟩] } = true := fun j => by
  refine objR_space rfl (ho j) rfl ?_ ?_
  ·show mapsRight [⟨0, (i : Int) + 3, 0, 9, false⟩, ⟨32, 2, 0, 2, true⟩, ⟨34, 3, 0, 1, true⟩] = true
   unfold mapsRight
   simp only [mapsR, WMap.fits, Bool.and_eq_true, decide_eq_true_eq, Bool.and_true]
   exact ⟨⟨⟨by omega, by omega, by omega, by omega, by omega, by omega, by omega⟩, by omega, ⟨by omega, by omega, by omega, by omega, by omega, by omega, by omega⟩, by omega, ⟨by omega, by omega, by omega, by omega, by omega, by omega, by omega⟩, by omega⟩, by simp⟩
  ·show ([⟨0, (i : Int) + 3, 0, 9, false⟩, ⟨32, 2, 0, 2, true⟩, ⟨34, 3, 0, 1, true⟩] : List WMap).all _ = true
   simp only [List.all_cons, List.all_nil, Bool.and_true, Bool.and_eq_true, decide_eq_true_eq]
   exact ⟨by omega, by omega, by omega⟩
 have e3 : ∀ j, objR (worldH ++ r) j { obj0 2 with lab := labOne, pages := 9, data := (codeU p.lines).take 576 } = true := fun j =>
  objR_seg rfl (ho2 j) rfl ⟨by show (0 : Int) <= 9; decide, by show (9 : Int) <= 16; decide, by show ((((codeU p.lines).take 576).length : Nat) : Int) <= 9 * 64; omega⟩
 show (objR _ i _ && (objR _ (i + 1) _ && (objR _ (i + 1 + 1) _ && true))) = true
 rw [e1, e2, e3]; rfl
theorem worldP_right {os : List WObj} (h0 : ∃ r, os = worldH ++ r) : ∀ (l : List ProgK) (i : Nat), (∀ p ∈ l, goodP p) -> 4 <= i -> (i : Int) + 3 * l.length <= os.length -> objsR os i (worldP i l) = true
 | [], _, _, _, _ => rfl
 | p :: r, i, h, hi, hn => by
  rw [List.length_cons] at hn
  show objsR os i (worldO i p ++ worldP ((i : Int) + 3) r) = true
  rw [objsR_app, worldO_right p (h p (List.mem_cons_self ..)) h0 hi (by omega)]
  have := worldP_right h0 r (i + 3) (fun q hq => h q (List.mem_cons_of_mem _ hq)) (by omega) (by omega)
  have e : ((i + 3 : Nat) : Int) = (i : Int) + 3 := by omega
  rw [e] at this
  exact this
theorem worldK_right (l : List ProgK) (c : Int) (h : ∀ p ∈ l, goodP p) : (worldK l c).right = true := by
 have hl : (l.take 4).length <= 4 := by rw [List.length_take]; omega
 have hlen : (worldK l c).objs.length = 4 + 3 * (l.take 4).length := by rw [worldK_objs, List.length_append, worldP_len]; rfl
 unfold WCfg.right
 simp only [Bool.and_eq_true, decide_eq_true_eq, List.all_eq_true]
 refine ⟨⟨by show 1 <= c % 2 + 1; omega, by show c % 2 + 1 <= 4; omega, by show (1 : Int) <= 600; omega, by show (600 : Int) <= 4096; omega, by show (0 : Int) <= 200; omega, by show (200 : Int) <= 4194302; omega, by omega⟩, by show slotsRight [(0, 2), (1, 1), (0, 1)] = true; decide, fun s hs => ?_, ?_⟩
 ·have hs' : s ∈ [((0 : Int), (2 : Int)), (1, 1), (0, 1)] := hs
  simp at hs'
  rcases hs' with rfl | rfl | rfl
  ·show (0 : Int) <= _; omega
  ·show (1 : Int) <= _; omega
  ·show (0 : Int) <= _; omega
 ·rw [worldK_objs, objsR_app]
  have hP : objsR (worldH ++ worldP 4 (l.take 4)) (0 + worldH.length) (worldP 4 (l.take 4)) = true :=
   worldP_right ⟨_, rfl⟩ (l.take 4) 4 (fun p hp => h p (List.mem_of_mem_take hp)) (Nat.le_refl _) (by rw [List.length_append, worldP_len]; show (4 : Int) + _ <= ((4 + _ : Nat) : Int); omega)
  rw [hP]
  rw [Bool.and_true]
  rfl
theorem worldK_labs (l : List ProgK) (c : Int) (h : ∀ p ∈ l, goodP p) : ∀ o ∈ (worldK l c).objs, o.lab.right = true /\ (o.kind = 3 -> o.clr.right = true) := by
 have hP : ∀ (m : List ProgK) (n : Int), (∀ p ∈ m, goodP p) -> ∀ o ∈ worldP n m, o.lab.right = true /\ (o.kind = 3 -> o.clr.right = true) := by
  intro m
  induction m with
  | nil => intro n _ o ho; cases ho
  | cons p r ih =>
   intro n hp o ho
   rcases List.mem_append.1 (show o ∈ worldO n p ++ worldP (n + 3) r from ho) with ho | ho
   ·simp [worldO] at ho
    rcases ho with rfl | rfl | rfl
    ·exact ⟨(hp p (List.mem_cons_self ..)).1.1, fun _ => by show labThree.right = true; decide⟩
    ·exact ⟨by show labOne.right = true; decide, fun e => by cases e⟩
    ·exact ⟨by show labOne.right = true; decide, fun e => by cases e⟩
   ·exact ih (n + 3) (fun q hq => hp q (List.mem_cons_of_mem _ hq)) o ho
 intro o ho
 rw [worldK_objs] at ho
 rcases List.mem_append.1 ho with ho | ho
 ·simp [worldH] at ho
  rcases ho with rfl | rfl | rfl | rfl
  ·exact ⟨by show labOne.right = true; decide, fun e => by cases e⟩
  ·exact ⟨by show labOne.right = true; decide, fun e => by cases e⟩
  ·exact ⟨by show labUp.right = true; decide, fun e => by cases e⟩
  ·exact ⟨by show labUp.right = true; decide, fun e => by cases e⟩
 ·exact hP _ _ (fun p hp => h p (List.mem_of_mem_take hp)) o ho
theorem worldK_new (l : List ProgK) (c : Int) (h : ∀ p ∈ l, goodP p) : newK (worldK l c) = newR (worldK l c) := newR_eq _ (worldK_right l c h) (worldK_labs l c h)
end Go.Proofs.YtmlcgebahdcmaaaGreatDoor
