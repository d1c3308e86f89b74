/- Which configurations may be, and their bytes: plainly. No program. -/
import Derived.Test.YtjjnidbggoaonaaGreatDoorZaA
import Derived.Test.YtjjnidbggoaonaaGreatDoorZaB
namespace Go.Proofs.YtjjnidbggoaonaaGreatDoor

/-! ### Labels -/
/-- Two labels, category by category, with the levels of both; more steps than there can be. -/
def bothF (da db : Nat) : Nat → List (Nat × Nat) → List (Nat × Nat) → List (Nat × Nat × Nat)
  | 0, _, _ => []
  | _ + 1, [], [] => []
  | g + 1, (c, x) :: r, [] => (c, x, db) :: bothF da db g r []
  | g + 1, [], (e, y) :: s => (e, da, y) :: bothF da db g [] s
  | g + 1, (c, x) :: r, (e, y) :: s => if c < e then (c, x, db) :: bothF da db g r ((e, y) :: s) else if e < c then (e, da, y) :: bothF da db g ((c, x) :: r) s else (c, x, y) :: bothF da db g r s
def bothL (a b : Lab) : List (Nat × Nat × Nat) := bothF a.d b.d (a.ps.length + b.ps.length) a.ps b.ps
def Lab.leq (a b : Lab) : Bool := decide (a.d ≤ b.d) && (bothL a b).all fun p => decide (p.2.1 ≤ p.2.2)
def Lab.merge (f : Nat → Nat → Nat) (a b : Lab) : Lab := ⟨f a.d b.d, (bothL a b).filterMap fun p => if f p.2.1 p.2.2 = f a.d b.d then none else some (p.1, f p.2.1 p.2.2)⟩
def Lab.rest (l : Lab) : Lab := Lab.merge (fun x _ => if x = 0 then 2 else x) l l
def Lab.plain (l : Lab) : Bool := l.ps.all fun p => decide (p.2 ≠ 0)
/-! ### Maps, slots -/
def WMap.fits (m : WMap) : Bool := decide (1 ≤ m.n ∧ m.n ≤ 16 ∧ 0 ≤ m.at_ ∧ m.at_ ≤ 4096 - m.n ∧ 0 ≤ m.from_ ∧ m.from_ ≤ 16 - m.n ∧ m.seg ≠ 0)
def mapsR : Int → List WMap → Bool
  | _, [] => true
  | e, m :: r => m.fits && (decide (e ≤ m.at_) && mapsR (m.at_ + m.n) r)
def mapsRight (l : List WMap) : Bool := mapsR 0 l && decide (l.length ≤ 16)
def slotsRight (l : List (Int × Int)) : Bool := l.all (fun s => decide (1 ≤ s.2 ∧ s.2 ≤ 16)) && decide (1 ≤ l.length ∧ l.length ≤ 8)
/-! ### Objects -/
/-- The label of an object's home; none. -/
def homeL (os : List WObj) (i : Nat) (o : WObj) : Option Lab :=
  if o.parent = 0 then some ⟨2, []⟩
  else if o.parent < 0 ∨ (i : Int) < o.parent then none
  else match os[o.parent.toNat - 1]? with
    | some p => if p.kind = 1 then some p.lab else none
    | none => none
def objR (os : List WObj) (i : Nat) (o : WObj) : Bool :=
  match homeL os i o with
  | none => false
  | some h => o.lab.right && (h.leq o.lab.rest &&
    (if o.kind = 1 then o.lab.plain && decide (0 ≤ o.pages ∧ o.pages ≤ 4096 ∧ 0 ≤ o.names ∧ o.names ≤ 4194304)
    else if o.kind = 2 then o.lab.plain && decide (0 ≤ o.pages ∧ o.pages ≤ 16 ∧ (o.data.length : Int) ≤ o.pages * 64)
    else if o.kind = 4 then o.lab.plain && (mapsRight o.maps && o.maps.all fun m => decide (m.seg ≤ (os.length : Int)))
    else if o.kind = 3 ∨ o.kind = 5 then o.clr.right && (o.lab.leq o.clr && decide (0 ≤ o.pc ∧ o.pc < 262144 ∧ 0 ≤ o.space ∧ o.space ≤ (os.length : Int)))
    else if o.kind = 6 then o.lab.plain else false))
def objsR (os : List WObj) : Nat → List WObj → Bool
  | _, [] => true
  | i, o :: r => objR os i o && objsR os (i + 1) r
def WCfg.right (c : WCfg) : Bool :=
  decide (1 ≤ c.cores ∧ c.cores ≤ 4 ∧ 1 ≤ c.frames ∧ c.frames ≤ 4096 ∧ 0 ≤ c.names ∧ c.names ≤ 4194302 ∧ c.objs.length ≤ 64) && (slotsRight c.slots &&
    ((c.slots.all fun s => decide (s.1 ≤ (c.objs.length : Int))) && objsR c.objs 0 c.objs))
/-! ### Their bytes -/
def putL (n : Nat) (x : Int) : List UInt8 := (List.range n).map fun j => UInt8.ofNat (byN n x j).toNat
def labP (l : Lab) : List UInt8 := putL 1 (l.d : Nat) ++ (putL 1 (l.ps.length : Nat) ++ l.ps.flatMap fun p => putL 4 (p.1 : Nat) ++ putL 1 (p.2 : Nat))
def mapP (m : WMap) : List UInt8 := putL 2 m.at_ ++ (putL 2 m.seg ++ (putL 2 m.from_ ++ (putL 2 m.n ++ putL 2 (if m.wr then 1 else 0))))
def objP (o : WObj) : List UInt8 :=
  putL 1 o.kind ++ (putL 1 o.parent ++ (labP o.lab ++
    (if o.kind = 1 then putL 2 o.pages ++ putL 4 o.names
    else if o.kind = 2 then putL 1 o.pages ++ (putL 2 (o.data.length : Nat) ++ o.data)
    else if o.kind = 4 then putL 1 (o.maps.length : Nat) ++ o.maps.flatMap mapP
    else if o.kind = 3 ∨ o.kind = 5 then labP o.clr ++ (putL 1 o.space ++ putL 4 o.pc)
    else [])))
def encT (c : WCfg) : List UInt8 :=
  putL 1 c.cores ++ (putL 2 c.frames ++ (putL 4 c.names ++ (putL 1 (c.slots.length : Nat) ++ (c.slots.flatMap (fun s => putL 1 s.1 ++ putL 1 s.2) ++ (putL 1 (c.objs.length : Nat) ++ c.objs.flatMap objP)))))
/-! ### Plans -/
/-- A seed of a label: a default, levels. -/
structure LSeed where
  d : Int
  ls : List Int
def seedPs (d : Int) : Nat → List Int → List (Nat × Nat)
  | _, [] => []
  | i, n :: r => (if i < 12 ∧ n % 5 ≠ d then [(3 * i + 1, (n % 5).toNat)] else []) ++ seedPs d (i + 1) r
def LSeed.lab (s : LSeed) : Lab := ⟨(s.d % 4 + 1).toNat, seedPs (s.d % 4 + 1) 0 s.ls⟩
structure OSeed where
  (kind parent : Int) (lab clr : LSeed) (pages names : Int) (data : List UInt8) (maps : List WMap) (space pc : Int)
structure WPlan where
  (cores frames names : Int) (slots : List (Int × Int)) (l : List OSeed)
def OSeed.obj (s : OSeed) : WObj :=
  let o : WObj := { obj0 s.kind with parent := s.parent, lab := s.lab.lab }
  if s.kind = 1 then { o with pages := s.pages, names := s.names }
  else if s.kind = 2 then { o with pages := s.pages, data := s.data }
  else if s.kind = 4 then { o with maps := s.maps }
  else if s.kind = 3 ∨ s.kind = 5 then { o with clr := s.clr.lab, space := s.space, pc := s.pc }
  else o
def WPlan.cfg (p : WPlan) : WCfg := ⟨p.cores, p.frames, p.names, p.slots, p.l.map OSeed.obj⟩
def WPlan.weight (p : WPlan) : Nat := p.slots.length + p.l.length + (p.l.map fun s => s.data.length + s.maps.length).sum
/-! ### What may be, is as texts have it -/
theorem objsR_at {os : List WObj} : ∀ {l : List WObj} {i : Nat}, objsR os i l = true → ∀ o ∈ l, ∃ j, objR os j o = true
  | [], _, _, o, ho => by cases ho
  | x :: l, i, h, o, ho => by
    unfold objsR at h
    rw [Bool.and_eq_true] at h
    rcases List.mem_cons.1 ho with rfl | ho
    · exact ⟨i, h.1⟩
    · exact objsR_at h.2 o ho
theorem mapsR_ok : ∀ {l : List WMap} {e : Int}, mapsR e l = true → ∀ m ∈ l, m.fits = true
  | [], _, _, m, hm => by cases hm
  | x :: l, e, h, m, hm => by
    unfold mapsR at h
    rw [Bool.and_eq_true, Bool.and_eq_true] at h
    rcases List.mem_cons.1 hm with rfl | hm
    · exact h.1
    · exact mapsR_ok h.2.2 m hm
theorem fits_ok {m : WMap} (h : m.fits = true) (hs : 0 ≤ m.seg) (hs2 : m.seg ≤ 64) : m.ok := by
  unfold WMap.fits at h
  rw [decide_eq_true_eq] at h
  exact ⟨⟨by omega, by omega⟩, ⟨hs, by omega⟩, ⟨by omega, by omega⟩, ⟨by omega, by omega⟩⟩
/-- Numbers without signs are not below 0. -/
structure WCfg.wf (c : WCfg) : Prop where
  sl : ∀ s ∈ c.slots, 0 ≤ s.1
  ms : ∀ o ∈ c.objs, ∀ m ∈ o.maps, 0 ≤ m.seg
theorem right_ok {c : WCfg} (h : c.right = true) (hw : c.wf) (hn : ∀ o ∈ c.objs, o.norm = o) : c.ok := by
  unfold WCfg.right at h
  simp only [Bool.and_eq_true, decide_eq_true_eq] at h
  obtain ⟨⟨h1, h2, h3, h4, h5, h6, h7⟩, hs, hc, ho⟩ := h
  unfold slotsRight at hs
  simp only [Bool.and_eq_true, decide_eq_true_eq, List.all_eq_true] at hs hc
  refine ⟨⟨by omega, by omega⟩, ⟨by omega, by omega⟩, ⟨by omega, by omega⟩, fun s hm => ?_, fun o hm => ?_⟩
  · have e1 := hs.1 s hm
    have e2 := hc s hm
    have e3 := hw.sl s hm
    exact ⟨⟨e3, by omega⟩, ⟨by omega, by omega⟩⟩
  · obtain ⟨j, hj⟩ := objsR_at ho o hm
    have hms := hw.ms o hm
    have hnm := hn o hm
    unfold objR at hj
    cases e : homeL c.objs j o with
    | none => rw [e] at hj; cases hj
    | some hl =>
      have hpar : N31 o.parent := by
        unfold homeL at e
        split at e
        · rename_i h0; rw [h0]; exact ⟨by omega, by omega⟩
        · split at e
          · cases e
          · rename_i h1
            have hlen : o.parent.toNat - 1 < c.objs.length := by
              split at e
              · rename_i hp; exact (List.getElem?_eq_some_iff.1 hp).1
              · cases e
            exact ⟨by omega, by omega⟩
      rw [e] at hj
      simp only [Bool.and_eq_true] at hj
      obtain ⟨hr, -, hk⟩ := hj
      by_cases k1 : o.kind = 1
      · rw [if_pos k1] at hk
        simp only [Bool.and_eq_true, decide_eq_true_eq] at hk
        exact ⟨by omega, hpar, hr, hnm, fun _ => ⟨⟨by omega, by omega⟩, ⟨by omega, by omega⟩⟩, fun _ => by omega, fun _ => by omega, fun _ => by omega⟩
      · rw [if_neg k1] at hk
        by_cases k2 : o.kind = 2
        · rw [if_pos k2] at hk
          simp only [Bool.and_eq_true, decide_eq_true_eq] at hk
          exact ⟨by omega, hpar, hr, hnm, fun _ => by omega, fun _ => ⟨by omega, by omega⟩, fun _ => by omega, fun _ => by omega⟩
        · rw [if_neg k2] at hk
          by_cases k4 : o.kind = 4
          · rw [if_pos k4] at hk
            simp only [Bool.and_eq_true, List.all_eq_true, decide_eq_true_eq] at hk
            unfold mapsRight at hk
            rw [Bool.and_eq_true] at hk
            refine ⟨by omega, hpar, hr, hnm, fun _ => by omega, fun _ => by omega, fun _ m hmm => ?_, fun _ => by omega⟩
            have e1 := mapsR_ok hk.2.1.1 m hmm
            have e2 := hk.2.2 m hmm
            exact fits_ok e1 (hms m hmm) (by omega)
          · rw [if_neg k4] at hk
            by_cases k35 : o.kind = 3 ∨ o.kind = 5
            · rw [if_pos k35] at hk
              simp only [Bool.and_eq_true, decide_eq_true_eq] at hk
              exact ⟨by omega, hpar, hr, hnm, fun _ => by omega, fun _ => by omega, fun _ => by omega, fun _ => ⟨hk.1, ⟨by omega, by omega⟩, ⟨by omega, by omega⟩⟩⟩
            · rw [if_neg k35] at hk
              split at hk
              · exact ⟨by omega, hpar, hr, hnm, fun _ => by omega, fun _ => by omega, fun _ => by omega, fun _ => by omega⟩
              · cases hk
theorem obj_norm (s : OSeed) : s.obj.norm = s.obj := by
  obtain ⟨k, par, lab, clr, pages, names, data, maps, space, pc⟩ := s
  unfold OSeed.obj WObj.norm obj0
  simp only
  by_cases k1 : k = 1
  · simp [k1]
  · by_cases k2 : k = 2
    · simp [k2]
    · by_cases k4 : k = 4
      · simp [k4]
      · by_cases k35 : k = 3 ∨ k = 5
        · simp only [if_neg k1, if_neg k2, if_neg k4, if_pos k35]
        · simp only [if_neg k1, if_neg k2, if_neg k4, if_neg k35]
/-! ### How long their texts are -/
theorem nDig_le : ∀ (k u : Nat), u < 10 ^ (k + 1) → Lib.nDigits u ≤ k + 1
  | 0, u, h => by rw [Lib.nDigits_small (by simpa using h)]; exact Nat.le_refl _
  | k + 1, u, h => by
    by_cases h1 : u < 10
    · rw [Lib.nDigits_small h1]; omega
    · rw [Lib.nDigits_big h1]
      have := nDig_le k (u / 10) (by rw [Nat.pow_succ] at h; omega)
      omega
theorem itoa_31 {x : Int} (h : N31 x) : (Lib.itoa x).length ≤ 10 := by
  rw [itoa_pos h.1, Lib.decDigits_length]
  exact nDig_le 9 _ (by have := h.1; have := h.2; omega)
theorem sumL_bd {ws : List (List UInt8)} {k : Nat} (h : ∀ w ∈ ws, w.length + 1 ≤ k) : sumL ws ≤ ws.length * k := by
  induction ws with
  | nil => exact Nat.zero_le _
  | cons w r ih =>
    rw [sumL_cons, List.length_cons, Nat.succ_mul]
    have := h w List.mem_cons_self
    have := ih fun x hx => h x (List.mem_cons_of_mem _ hx)
    omega
theorem lab_short {l : Lab} (h : l.right = true) : (labK l).length ≤ 160 := by
  obtain ⟨⟨d1, d4⟩, hps, hp⟩ := Lab.right_spec h
  have e : ∀ ps : List (Nat × Nat), (∀ p ∈ ps, p.1 ≤ 1073741824 ∧ p.2 ≤ 4) → (ps.flatMap pairT).length ≤ ps.length * 13 := fun ps => by
    induction ps with
    | nil => intro _; exact Nat.zero_le _
    | cons p r ih =>
      intro hq
      have h1 := (hq p List.mem_cons_self).1
      have h2 := itoa_31 (x := (p.1 : Int)) ⟨by omega, by omega⟩
      have h3 := ih fun x hx => hq x (List.mem_cons_of_mem _ hx)
      rw [List.flatMap_cons, List.length_append, List.length_cons, Nat.succ_mul]
      have : (pairT p).length = (Lib.itoa (p.1 : Int)).length + 3 := by unfold pairT; simp [levT_len]
      omega
  have := e l.ps hp
  unfold labK
  simp only [List.length_cons, List.length_append, levT_len, List.length_nil]
  omega
theorem map_short {m : WMap} (h : m.ok) : (mapK m).length ≤ 45 := by
  have h1 := itoa_31 h.a; have h2 := itoa_31 h.s; have h3 := itoa_31 h.f; have h4 := itoa_31 h.n
  have e : (if m.wr then [119] else [114] : List UInt8).length = 1 := by cases m.wr <;> rfl
  unfold mapK
  simp only [List.length_append, List.length_cons, e]
  omega
theorem obj_short {o : WObj} (h : o.ok) (hm : o.kind = 4 → o.maps.length ≤ 16) : (objT o).length + 1 ≤ 918 + 2 * o.data.length := by
  have e0 : sumL ([] : List (List UInt8)) = 0 := rfl
  have h1 := itoa_31 h.par
  have h2 := lab_short h.lab
  have hk : (kindW.getD o.kind.toNat []).length ≤ 9 := by
    have : ∀ k : Nat, k < 7 → (kindW.getD k []).length ≤ 9 := by decide
    exact this _ (by have := h.kind; omega)
  have hx : (hexK o.data).length ≤ 1 + 2 * o.data.length := by
    by_cases e : o.data = []
    · rw [e]; decide
    · rw [hexK_len _ e]; omega
  have hp : sumL (partK o) ≤ 736 + 2 * o.data.length := by
    unfold partK
    split
    · rename_i k; have h3 := itoa_31 (h.k1 k).1; have h4 := itoa_31 (h.k1 k).2
      simp only [sumL_cons, e0]; omega
    · split
      · rename_i k; have h3 := itoa_31 (h.k2 k)
        simp only [sumL_cons, e0]; omega
      · split
        · rename_i k
          have := sumL_bd (ws := o.maps.map mapK) (k := 46) fun w hw => by
            obtain ⟨m, hmm, rfl⟩ := List.mem_map.1 hw
            have := map_short (h.k4 k m hmm)
            omega
          have h3 := hm k
          rw [List.length_map] at this
          omega
        · split
          · rename_i k; obtain ⟨a, b, c⟩ := h.k35 k
            have h3 := lab_short a; have h4 := itoa_31 b; have h5 := itoa_31 c
            simp only [sumL_cons, e0]; omega
          · rw [e0]; omega
  rw [objK_T, List.length_append, wide_sum]
  unfold objK
  rw [sumL_cons, sumL_cons]
  omega
theorem objsR_maps {os : List WObj} {j : Nat} {o : WObj} (h : objR os j o = true) (k : o.kind = 4) : o.maps.length ≤ 16 := by
  unfold objR at h
  cases e : homeL os j o with
  | none => rw [e] at h; cases h
  | some hl =>
    rw [e] at h
    simp only [Bool.and_eq_true] at h
    have hk := h.2.2
    rw [if_neg (by omega), if_neg (by omega), if_pos k] at hk
    simp only [Bool.and_eq_true] at hk
    unfold mapsRight at hk
    simp only [Bool.and_eq_true, decide_eq_true_eq] at hk
    exact hk.2.1.2
theorem print_short {c : WCfg} (h : c.right = true) (ho : c.ok) (hd : (c.objs.map fun o => o.data.length).sum ≤ 3000) : (printT c).length ≤ 65009 := by
  unfold WCfg.right at h
  simp only [Bool.and_eq_true, decide_eq_true_eq] at h
  obtain ⟨⟨-, -, -, -, -, -, h7⟩, hs, -, hob⟩ := h
  unfold slotsRight at hs
  simp only [Bool.and_eq_true, decide_eq_true_eq] at hs
  have e0 : sumL ([] : List (List UInt8)) = 0 := rfl
  have i1 := itoa_31 ho.co; have i2 := itoa_31 ho.fr; have i3 := itoa_31 ho.nm
  have hh : (headT c).length ≤ 40 := by
    unfold headT numT machW
    simp only [List.length_append, List.length_cons, List.length_nil]
    omega
  have hsl : sumL (c.slots.map slotT) ≤ c.slots.length * 27 := by
    have := sumL_bd (ws := c.slots.map slotT) (k := 27) fun w hw => by
      obtain ⟨s, hm, rfl⟩ := List.mem_map.1 hw
      have h1 := itoa_31 (ho.sl s hm).1; have h2 := itoa_31 (ho.sl s hm).2
      unfold slotT numT slotW
      simp only [List.length_append, List.length_cons, List.length_nil]
      omega
    rwa [List.length_map] at this
  have hobj : ∀ l : List WObj, (∀ o ∈ l, (objT o).length + 1 ≤ 918 + 2 * o.data.length) → sumL (l.map objT) ≤ l.length * 918 + 2 * (l.map fun o => o.data.length).sum := fun l => by
    induction l with
    | nil => intro _; exact Nat.zero_le _
    | cons o r ih =>
      intro hq
      have h1 := hq o List.mem_cons_self
      have h2 := ih fun x hx => hq x (List.mem_cons_of_mem _ hx)
      rw [List.map_cons, sumL_cons, List.map_cons, List.sum_cons, List.length_cons, Nat.succ_mul]
      omega
  have := hobj c.objs fun o hm => obj_short (ho.ob o hm) fun k => by
    obtain ⟨j, hj⟩ := objsR_at hob o hm
    exact objsR_maps hj k
  rw [printT_len]
  unfold linesT
  rw [sumL_cons]
  have hap : ∀ a b : List (List UInt8), sumL (a ++ b) = sumL a + sumL b := fun a b => by simp [sumL]
  rw [hap]
  omega
theorem plan_data (p : WPlan) (h : p.weight ≤ 3000) : (p.cfg.objs.map fun o => o.data.length).sum ≤ 3000 := by
  have e : ∀ l : List OSeed, ((l.map OSeed.obj).map fun o => o.data.length).sum ≤ (l.map fun s => s.data.length + s.maps.length).sum := fun l => by
    induction l with
    | nil => exact Nat.le_refl _
    | cons s r ih =>
      rw [List.map_cons, List.map_cons, List.sum_cons, List.map_cons, List.sum_cons]
      have : s.obj.data.length ≤ s.data.length := by
        unfold OSeed.obj obj0
        simp only
        split
        · exact Nat.zero_le _
        · split
          · exact Nat.le_refl _
          · split
            · exact Nat.zero_le _
            · split <;> exact Nat.zero_le _
      omega
  have := e p.l
  unfold WPlan.weight at h
  show ((p.l.map OSeed.obj).map _).sum ≤ 3000
  omega
/-! ### The laws -/
/-- What Parse answers: a configuration; none. -/
def parseC (t : List UInt8) : Option WCfg := match parseT t with
  | some c => if c.right = true then some c else none
  | none => none
structure WPlan.wf (p : WPlan) : Prop where
  sl : ∀ s ∈ p.slots, 0 ≤ s.1
  ms : ∀ s ∈ p.l, ∀ m ∈ s.maps, 0 ≤ m.seg
theorem cfg_wf {p : WPlan} (h : p.wf) : p.cfg.wf := by
  refine ⟨h.sl, fun o ho m hm => ?_⟩
  obtain ⟨s, hs, rfl⟩ := List.mem_map.1 ho
  have hsub : ∀ m ∈ s.obj.maps, m ∈ s.maps := by
    intro m hm
    unfold OSeed.obj obj0 at hm
    simp only at hm
    split at hm
    · cases hm
    · split at hm
      · cases hm
      · split at hm
        · exact hm
        · split at hm <;> cases hm
  exact h.ms s hs m (hsub m hm)
theorem cfg_ok {p : WPlan} (h : p.wf) (hr : p.cfg.right = true) : p.cfg.ok := right_ok hr (cfg_wf h) fun o ho => by
  obtain ⟨s, _, rfl⟩ := List.mem_map.1 ho
  exact obj_norm s
theorem plan_text {p : WPlan} (h : p.wf) (hw : p.weight ≤ 3000) (hr : p.cfg.right = true) : (printT p.cfg).length ≤ 65009 := print_short hr (cfg_ok h hr) (plan_data p hw)
/-- WorldBack. -/
theorem back_all {p : WPlan} (h : p.wf) (hw : p.weight ≤ 3000) (hr : p.cfg.right = true) : parseC (printT p.cfg) = some p.cfg := by
  unfold parseC
  rw [parse_print (cfg_ok h hr) (by have := plan_text h hw hr; omega)]
  simp only [if_pos hr]
/-- WorldBlanks. -/
theorem blanks_all {p : WPlan} (h : p.wf) (hr : p.cfg.right = true) (hs : List Nat) (hl : (spread hs false (printT p.cfg)).length ≤ 65536) : parseC (spread hs false (printT p.cfg)) = some p.cfg := by
  unfold parseC
  rw [parse_spread (cfg_ok h hr) hs hl]
  simp only [if_pos hr]
/-- WorldAny. -/
theorem any_all {t : List UInt8} {c : WCfg} (ht : t.length ≤ 65535) (hc : parseC t = some c) : c.right = true ∧ c.ok ∧ parseC (printT c) = some c := by
  unfold parseC at hc
  cases e : parseT t with
  | none => rw [e] at hc; cases hc
  | some d =>
    rw [e] at hc
    simp only at hc
    split at hc
    · rename_i hr
      cases hc
      obtain ⟨h1, h2⟩ := parse_ok e
      refine ⟨hr, h1, ?_⟩
      unfold parseC
      rw [parse_print h1 (by omega)]
      simp only [if_pos hr]
    · cases hc
end Go.Proofs.YtjjnidbggoaonaaGreatDoor
