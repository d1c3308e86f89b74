/- What the words of a configuration's text are: plain law, no program. -/
import Derived.Test.YtjjnidbggoaonaaGreatDoorRows
import Derived.Lib.ItoaNum
import Derived.Lib.Split
import Derived.Lib.SplitLaws
import Derived.Lib.IndexBytes
import Derived.Lib.IndexAny
/- Decimal numerals: what they are of, that no two numbers have one; words apart by blanks. Plain lists, no program. -/
namespace Go.Proofs.YtjjnidbggoaonaaGreatDoor
open Go.Lib

/-- What digits spell. -/
def num (l : List UInt8) : Nat := l.foldl (fun r c => r * 10 + (c.toNat - 48)) 0
theorem num_snoc (l : List UInt8) (c : UInt8) : num (l ++ [c]) = num l * 10 + (c.toNat - 48) := by simp [num, List.foldl_append]
theorem digit_nat (k : Nat) (h : k < 10) : (UInt8.ofNat (48 + k)).toNat = 48 + k := by
  rw [UInt8.toNat_ofNat']; exact Nat.mod_eq_of_lt (by omega)
theorem num_dec (u : Nat) : num (decDigits u) = u := by
  induction u using Nat.strongRecOn with
  | _ u ih =>
    rw [decDigits]
    by_cases h : u < 10
    · rw [dif_pos h]
      show 0 * 10 + ((UInt8.ofNat (48 + u)).toNat - 48) = u
      rw [digit_nat u h]; omega
    · rw [dif_neg h, num_snoc, ih (u / 10) (by omega), digit_nat _ (by omega)]; omega
theorem dec_digit (u : Nat) : ∀ c ∈ decDigits u, 48 ≤ c.toNat ∧ c.toNat ≤ 57 := by
  induction u using Nat.strongRecOn with
  | _ u ih =>
    intro c hc
    rw [decDigits] at hc
    by_cases h : u < 10
    · rw [dif_pos h] at hc
      simp only [List.mem_singleton] at hc
      subst hc
      rw [digit_nat u h]; omega
    · rw [dif_neg h] at hc
      rcases List.mem_append.1 hc with hc | hc
      · exact ih (u / 10) (by omega) c hc
      · simp only [List.mem_singleton] at hc
        subst hc
        rw [digit_nat _ (by omega)]; omega
theorem dec_ne (u : Nat) : decDigits u ≠ [] := by
  rw [decDigits]; split <;> simp
theorem dec_inj {u v : Nat} (h : decDigits u = decDigits v) : u = v := by rw [← num_dec u, ← num_dec v, h]
theorem itoa_char (n : Int) : ∀ c ∈ itoa n, c.toNat = 45 ∨ (48 ≤ c.toNat ∧ c.toNat ≤ 57) := by
  intro c hc
  unfold itoa at hc
  split at hc
  · rcases List.mem_cons.1 hc with rfl | hc
    · exact .inl rfl
    · exact .inr (dec_digit _ c hc)
  · exact .inr (dec_digit _ c hc)
theorem itoa_ne (n : Int) : itoa n ≠ [] := by
  unfold itoa; split
  · simp
  · exact dec_ne _
theorem itoa_inj {n m : Int} (h : itoa n = itoa m) : n = m := by
  have head : ∀ u v : Nat, 45 :: decDigits u ≠ decDigits v := fun u v e => by
    have := dec_digit v 45 (by rw [← e]; simp)
    simp at this
  unfold itoa at h
  split at h <;> split at h
  · have := dec_inj (List.cons.inj h).2; omega
  · exact absurd h (head _ _)
  · exact absurd h.symm (head _ _)
  · have := dec_inj h; omega

/-- No blank in it. -/
def Word (l : List UInt8) : Prop := ∀ c ∈ l, c ≠ 32
theorem itoa_word (n : Int) : Word (itoa n) := fun c hc e => by
  subst e
  have := itoa_char n 32 hc
  simp at this
theorem Word.cons {l : List UInt8} (h : Word l) {c : UInt8} (hc : c ≠ 32) : Word (c :: l) := fun d hd => by
  rcases List.mem_cons.1 hd with rfl | hd
  · exact hc
  · exact h d hd
/-- The first word of a text, and what is behind it. -/
theorem word_split : ∀ {l1 l2 r1 r2 : List UInt8}, Word l1 → Word l2 → l1 ++ 32 :: r1 = l2 ++ 32 :: r2 → l1 = l2 ∧ r1 = r2
  | [], [], _, _, _, _, h => ⟨rfl, (List.cons.inj h).2⟩
  | [], c :: l2, _, _, _, h2, h => absurd (List.cons.inj h).1.symm (h2 c (by simp))
  | c :: l1, [], _, _, h1, _, h => absurd (List.cons.inj h).1 (h1 c (by simp))
  | c :: l1, d :: l2, r1, r2, h1, h2, h => by
    obtain ⟨e1, e2⟩ := List.cons.inj h
    obtain ⟨e3, e4⟩ := word_split (fun x hx => h1 x (by simp [hx])) (fun x hx => h2 x (by simp [hx])) e2
    exact ⟨by rw [e1, e3], e4⟩
end Go.Proofs.YtjjnidbggoaonaaGreatDoor
/- Texts cut at a byte, plainly. No program. -/
namespace Go.Proofs.YtjjnidbggoaonaaGreatDoor
open Go.Lib

def cutAt (c : UInt8) : List UInt8 → Option (List UInt8 × List UInt8)
  | [] => none
  | x :: r => if x == c then some ([], r) else (cutAt c r).map fun p => (x :: p.1, p.2)
def partsAt (c : UInt8) : List UInt8 → List (List UInt8)
  | [] => [[]]
  | x :: r => if x == c then [] :: partsAt c r else match partsAt c r with
    | [] => [[x]]
    | p :: ps => (x :: p) :: ps
def digB (c : UInt8) : Bool := 48 ≤ c && c ≤ 57
theorem cutAt_none {c : UInt8} : ∀ {l : List UInt8}, c ∉ l → cutAt c l = none
  | [], _ => rfl
  | x :: r, h => by
    have h1 : ¬ (x == c) = true := fun e => h (by rw [beq_iff_eq] at e; rw [e]; exact List.mem_cons_self)
    unfold cutAt
    rw [if_neg h1, cutAt_none (fun e => h (List.mem_cons_of_mem _ e))]
    rfl
theorem cutAt_some {c : UInt8} : ∀ {l : List UInt8} (r : List UInt8), c ∉ l → cutAt c (l ++ c :: r) = some (l, r)
  | [], r, _ => by unfold cutAt; simp
  | x :: l, r, h => by
    have h1 : ¬ (x == c) = true := fun e => h (by rw [beq_iff_eq] at e; rw [e]; exact List.mem_cons_self)
    show cutAt c (x :: (l ++ c :: r)) = _
    unfold cutAt
    rw [if_neg h1, cutAt_some r (fun e => h (List.mem_cons_of_mem _ e))]
    rfl
theorem partsAt_none {c : UInt8} : ∀ {l : List UInt8}, c ∉ l → partsAt c l = [l]
  | [], _ => rfl
  | x :: r, h => by
    have h1 : ¬ (x == c) = true := fun e => h (by rw [beq_iff_eq] at e; rw [e]; exact List.mem_cons_self)
    unfold partsAt
    rw [if_neg h1, partsAt_none (fun e => h (List.mem_cons_of_mem _ e))]
theorem partsAt_some {c : UInt8} : ∀ {l : List UInt8} (r : List UInt8), c ∉ l → partsAt c (l ++ c :: r) = l :: partsAt c r
  | [], r, _ => by show partsAt c (c :: r) = _; rw [partsAt]; simp
  | x :: l, r, h => by
    have h1 : ¬ (x == c) = true := fun e => h (by rw [beq_iff_eq] at e; rw [e]; exact List.mem_cons_self)
    show partsAt c (x :: (l ++ c :: r)) = _
    rw [partsAt, if_neg h1, partsAt_some r (fun e => h (List.mem_cons_of_mem _ e))]
theorem getLast_app {l m : List UInt8} (h : m ≠ []) : (l ++ m).getLast? = m.getLast? := by
  rw [List.getLast?_append]
  cases e : m.getLast? with
  | none => exact absurd (List.getLast?_eq_none_iff.1 e) h
  | some _ => rfl
theorem digB_of {c : UInt8} (h : 48 ≤ c.toNat ∧ c.toNat ≤ 57) : digB c = true := by
  unfold digB
  rw [Bool.and_eq_true, decide_eq_true_eq, decide_eq_true_eq, UInt8.le_iff_toNat_le, UInt8.le_iff_toNat_le]
  exact h
theorem cut_index (c : UInt8) : ∀ l : List UInt8, (indexByte l c = -1 ∧ cutAt c l = none) ∨ ∃ i : Nat, indexByte l c = i ∧ i < l.length ∧ cutAt c l = some (l.take i, l.drop (i + 1))
  | [] => .inl ⟨rfl, rfl⟩
  | x :: r => by
    unfold indexByte cutAt
    by_cases h : (x == c) = true
    · rw [if_pos h, if_pos h]
      exact .inr ⟨0, rfl, by simp, by simp⟩
    · rw [if_neg h, if_neg h]
      rcases cut_index c r with ⟨h1, h2⟩ | ⟨i, h1, h2, h3⟩
      · rw [h1, h2]; exact .inl ⟨rfl, rfl⟩
      · rw [h1, h3, if_neg (by simp)]
        exact .inr ⟨i + 1, by simp, by simpa using h2, by simp⟩
theorem parts_cut (c : UInt8) : ∀ l : List UInt8, partsAt c l = match cutAt c l with | none => [l] | some p => p.1 :: partsAt c p.2
  | [] => rfl
  | x :: r => by
    unfold cutAt
    rw [partsAt]
    by_cases h : (x == c) = true
    · rw [if_pos h, if_pos h]
    · rw [if_neg h, if_neg h, parts_cut c r]
      cases cutAt c r <;> rfl
theorem split_parts (c : UInt8) : ∀ (n : Nat) (l : List UInt8), l.length ≤ n → splitK [c] 0 (count l [c]) l = partsAt c l := by
  intro n
  induction n with
  | zero =>
    intro l hl
    have : l = [] := List.eq_nil_of_length_eq_zero (by omega)
    subst this
    have hm : index [] [c] = -1 := rfl
    rw [count_miss hm]; rfl
  | succ n ih =>
    intro l hl
    rw [parts_cut]
    have ho := index_one l c
    rcases cut_index c l with ⟨h1, h2⟩ | ⟨i, h1, h2, h3⟩
    · rw [h1] at ho
      rw [count_miss ho, h2]; rfl
    · rw [h1] at ho
      rw [count_hit (by simp) ho, h3]
      show splitK [c] 0 (1 + _) l = _
      rw [Nat.add_comm]
      unfold splitK
      rw [if_neg (by rw [ho]; simp), ho]
      simp only [Int.toNat_natCast, Nat.add_zero, List.length_cons, List.length_nil, Nat.zero_add]
      rw [ih _ (by simp; omega)]
theorem partsAt_len (c : UInt8) : ∀ l : List UInt8, (partsAt c l).length ≤ l.length + 1
  | [] => by simp [partsAt]
  | x :: r => by
    have := partsAt_len c r
    rw [partsAt]
    split
    · simp; omega
    · cases h : partsAt c r <;> rw [h] at this <;> simp at this ⊢; omega
theorem partsAt_each (c : UInt8) : ∀ (l : List UInt8), ∀ p ∈ partsAt c l, p.length ≤ l.length
  | [], p, h => by simp [partsAt] at h; subst h; simp
  | x :: r, p, h => by
    have ih := partsAt_each c r
    rw [partsAt] at h
    split at h
    · rcases List.mem_cons.1 h with rfl | h
      · simp
      · have := ih p h; simp; omega
    · cases hq : partsAt c r with
      | nil => rw [hq] at h; simp at h; subst h; simp
      | cons q qs =>
        rw [hq] at h ih
        rcases List.mem_cons.1 h with rfl | h
        · have := ih q List.mem_cons_self; simp; omega
        · have := ih p (List.mem_cons_of_mem _ h); simp; omega
theorem cut_eq (l : List UInt8) (c : UInt8) : Lib.cut l [c] = match cutAt c l with | none => (l, [], false) | some p => (p.1, p.2, true) := by
  unfold Lib.cut
  rw [index_one]
  rcases cut_index c l with ⟨h1, h2⟩ | ⟨i, h1, _, h3⟩
  · rw [h1, h2]; rfl
  · rw [h1, h3, if_pos (by omega)]; simp
end Go.Proofs.YtjjnidbggoaonaaGreatDoor
/- Configurations, their texts, and how a text is read: plainly. No program. -/
namespace Go.Proofs.YtjjnidbggoaonaaGreatDoor

/-- A label: a default, pairs of a category and a level. -/
structure Lab where
  d : Nat
  ps : List (Nat × Nat)
structure WMap where
  (at_ seg from_ n : Int) (wr : Bool)
structure WObj where
  (kind parent : Int) (lab clr : Lab) (pages names : Int) (data : List UInt8) (maps : List WMap) (space pc : Int)
structure WCfg where
  (cores frames names : Int) (slots : List (Int × Int)) (objs : List WObj)

/-! ### The text -/
def levT (i : Nat) : List UInt8 := [([42, 48, 49, 50, 51] : List UInt8).getD i 0]
def numT (n : Int) : List UInt8 := 32 :: Lib.itoa n
def pairT (p : Nat × Nat) : List UInt8 := 32 :: (Lib.itoa (p.1 : Nat) ++ 58 :: levT p.2)
def labT (l : Lab) : List UInt8 := [32, 123] ++ levT l.d ++ l.ps.flatMap pairT ++ [125]
def hexN (d : Nat) : UInt8 := ([48, 49, 50, 51, 52, 53, 54, 55, 56, 57, 97, 98, 99, 100, 101, 102] : List UInt8).getD d 0
def hex2 (c : UInt8) : List UInt8 := [hexN (c.toNat / 16), hexN (c.toNat % 16)]
def hexT (b : List UInt8) : List UInt8 := 32 :: (if b = [] then [45] else b.flatMap hex2)
def mapT (m : WMap) : List UInt8 := 32 :: (Lib.itoa m.at_ ++ 44 :: (Lib.itoa m.seg ++ 44 :: (Lib.itoa m.from_ ++ 44 :: (Lib.itoa m.n ++ 44 :: (if m.wr then [119] else [114])))))
/-- The words of objects, by their kinds. -/
def kindW : List (List UInt8) := [[45], [99, 111, 110, 116, 97, 105, 110, 101, 114], [115, 101, 103, 109, 101, 110, 116], [116, 104, 114, 101, 97, 100], [115, 112, 97, 99, 101], [103, 97, 116, 101], [100, 101, 118, 105, 99, 101]]
def partT (o : WObj) : List UInt8 :=
  if o.kind = 1 then numT o.pages ++ numT o.names
  else if o.kind = 2 then numT o.pages ++ hexT o.data
  else if o.kind = 4 then o.maps.flatMap mapT
  else if o.kind = 3 ∨ o.kind = 5 then labT o.clr ++ (numT o.space ++ numT o.pc)
  else []
def objT (o : WObj) : List UInt8 := kindW.getD o.kind.toNat [] ++ (numT o.parent ++ (labT o.lab ++ partT o))
def machW : List UInt8 := [109, 97, 99, 104, 105, 110, 101]
def slotW : List UInt8 := [115, 108, 111, 116]
def headT (c : WCfg) : List UInt8 := machW ++ (numT c.cores ++ (numT c.frames ++ numT c.names))
def slotT (s : Int × Int) : List UInt8 := slotW ++ (numT s.1 ++ numT s.2)
def linesT (c : WCfg) : List (List UInt8) := headT c :: (c.slots.map slotT ++ c.objs.map objT)
def printT (c : WCfg) : List UInt8 := (linesT c).flatMap fun l => l ++ [10]

/-! ### The reader -/
def trimL (l : List UInt8) : List UInt8 := l.dropWhile (· == 32)
def trimS (l : List UInt8) : List UInt8 := trimL (trimL l.reverse).reverse
/-- A reader: what is left, and whether it has failed. -/
structure Rd where
  (s : List UInt8) (bad : Bool)
def Rd.fail (r : Rd) : Rd := ⟨r.s, true⟩
/-- The next word. -/
def Rd.word (r : Rd) : Rd × List UInt8 :=
  match cutAt 32 (trimL r.s) with
  | some (w, rest) => (⟨rest, r.bad || decide (w = [])⟩, w)
  | none => (⟨[], r.bad || decide (trimL r.s = [])⟩, trimL r.s)
def Rd.over (r : Rd) : Bool := decide (trimL r.s = [])
/-- A number below 2^31, written as numbers are. -/
def numW (w : List UInt8) : Option Nat := if w ≠ [] ∧ (w.all digB = true ∧ (num w < 2147483648 ∧ Lib.decDigits (num w) = w)) then some (num w) else none
def Rd.num (r : Rd) : Rd × Int := match numW r.word.2 with
  | some n => (r.word.1, n)
  | none => (r.word.1.fail, 0)
def levOf (s : List UInt8) : Option Nat := match s with
  | [c] => if c = 42 then some 0 else if c = 48 then some 1 else if c = 49 then some 2 else if c = 50 then some 3 else if c = 51 then some 4 else none
  | _ => none
/-- May it be a label? -/
def pairsR (d : Nat) : Nat → List (Nat × Nat) → Bool
  | _, [] => true
  | last, p :: r => decide (last < p.1 ∧ p.1 ≤ 1073741824 ∧ p.2 ≤ 4 ∧ p.2 ≠ d) && pairsR d p.1 r
def Lab.right (l : Lab) : Bool := decide (1 ≤ l.d ∧ l.d ≤ 4 ∧ l.ps.length ≤ 12) && pairsR l.d 0 l.ps
/-- The pairs of a label's words; none: one of them is none, or has no level that there is. -/
def pairsOf : List (List UInt8) → Option (List (Nat × Nat))
  | [] => some []
  | s :: r => match cutAt 58 s with
    | none => none
    | some (a, b) => match numW a, levOf b with
      | some c, some l => if c ≤ 1073741824 then (pairsOf r).map ((c, l) :: ·) else none
      | _, _ => none
def labOf (ws : List (List UInt8)) : Option Lab := match ws with
  | [] => none
  | d :: r => match levOf d, pairsOf r with
    | some d, some ps => if (Lab.right ⟨d, ps⟩) = true then some ⟨d, ps⟩ else none
    | _, _ => none
def lab0 : Lab := ⟨0, []⟩
def Rd.label (r : Rd) : Rd × Lab :=
  match cutAt 125 (trimL r.s) with
  | none => (⟨[], true⟩, lab0)
  | some (inn, rest) =>
    match inn with
    | 123 :: i => if rest = [] ∨ rest.head? = some 32 then (match labOf (partsAt 32 i) with
        | some l => (⟨rest, r.bad⟩, l)
        | none => (⟨rest, true⟩, lab0)) else (⟨rest, true⟩, lab0)
    | _ => (⟨rest, true⟩, lab0)
def hexD1 (c : UInt8) : Option Nat := if 48 ≤ c ∧ c ≤ 57 then some (c.toNat - 48) else if 97 ≤ c ∧ c ≤ 102 then some (c.toNat - 87) else none
def hexOf : List UInt8 → Option (List UInt8)
  | [] => some []
  | [_] => none
  | a :: b :: r => match hexD1 a, hexD1 b, hexOf r with
    | some x, some y, some l => some (UInt8.ofNat (x * 16 + y) :: l)
    | _, _, _ => none
def Rd.hex (r : Rd) : Rd × List UInt8 :=
  if r.word.2 = [45] then (r.word.1, []) else match hexOf r.word.2 with
    | some b => (r.word.1, b)
    | none => (r.word.1.fail, [])
def map0 : WMap := ⟨0, 0, 0, 0, false⟩
def mapOf (w : List UInt8) : Option WMap := match partsAt 44 w with
  | [a, b, c, d, e] => match numW a, numW b, numW c, numW d with
    | some a, some b, some c, some d => if e = [114] then some ⟨a, b, c, d, false⟩ else if e = [119] then some ⟨a, b, c, d, true⟩ else none
    | _, _, _, _ => none
  | _ => none
def Rd.one (r : Rd) : Rd × WMap := match mapOf r.word.2 with
  | some m => (r.word.1, m)
  | none => (r.word.1.fail, map0)
/-- Maps, as long as there are some; g is more than there can be. -/
def Rd.maps : Nat → Rd → Rd × List WMap
  | 0, r => (r, [])
  | g + 1, r => if r.over = true ∨ r.bad = true then (r, []) else ((Rd.maps g r.one.1).1, r.one.2 :: (Rd.maps g r.one.1).2)
def obj0 (k : Int) : WObj := ⟨k, 0, lab0, lab0, 0, 0, [], [], 0, 0⟩
def Rd.object (r : Rd) (k : Nat) : Rd × WObj :=
  let p := r.num
  let l := p.1.label
  let o : WObj := { obj0 k with parent := p.2, lab := l.2 }
  if k = 1 then
    let a := l.1.num
    let b := a.1.num
    (b.1, { o with pages := a.2, names := b.2 })
  else if k = 2 then
    let a := l.1.num
    let b := a.1.hex
    (b.1, { o with pages := a.2, data := b.2 })
  else if k = 4 then
    let m := Rd.maps (l.1.s.length + 1) l.1
    (m.1, { o with maps := m.2 })
  else if k = 3 ∨ k = 5 then
    let c := l.1.label
    let a := c.1.num
    let b := a.1.num
    (b.1, { o with clr := c.2, space := a.2, pc := b.2 })
  else (l.1, o)
/-- A word's kind; 0. -/
def kindOf (w : List UInt8) : Nat := (kindW.findIdx? (· == w)).getD 0
/-- The lines that tell something. -/
def linesOf (text : List UInt8) : List (List UInt8) := ((partsAt 10 text).map trimS).filter fun l => l.head? != none && l.head? != some 35
/-- The lines behind the first one: slots, then objects. -/
def readLines : List (List UInt8) → Bool → WCfg → Bool × WCfg
  | [], bad, c => (bad, c)
  | s :: r, bad, c =>
    let w := Rd.word ⟨s, false⟩
    if w.2 = slotW ∧ c.objs = [] then
      let a := w.1.num
      let b := a.1.num
      readLines r (bad || (b.1.bad || !b.1.over)) { c with slots := c.slots ++ [(a.2, b.2)] }
    else
      let o := w.1.object (kindOf w.2)
      readLines r (bad || decide (kindOf w.2 = 0) || (o.1.bad || !o.1.over)) { c with objs := c.objs ++ [o.2] }
def readHead (l : List UInt8) : Bool × WCfg :=
  let w := Rd.word ⟨l, false⟩
  let a := w.1.num
  let b := a.1.num
  let d := b.1.num
  (decide (w.2 ≠ machW) || (d.1.bad || !d.1.over), ⟨a.2, b.2, d.2, [], []⟩)
/-- The configuration that a text's lines tell, if none is bad. -/
def parseT (text : List UInt8) : Option WCfg :=
  if 65536 < text.length then none
  else match linesOf text with
    | [] => none
    | l :: r => let h := readHead l
      let p := readLines r h.1 h.2
      if p.1 = true then none else some p.2
end Go.Proofs.YtjjnidbggoaonaaGreatDoor
/- A configuration comes back from its text. No program. -/
namespace Go.Proofs.YtjjnidbggoaonaaGreatDoor

theorem trimL_sp (l : List UInt8) : trimL (32 :: l) = trimL l := rfl
theorem trimL_cons {c : UInt8} (l : List UInt8) (h : c ≠ 32) : trimL (c :: l) = c :: l := by
  unfold trimL
  rw [List.dropWhile_cons, if_neg (by simpa using h)]
theorem trimL_word {w : List UInt8} (hw : Word w) (h0 : w ≠ []) (t : List UInt8) : trimL (w ++ t) = w ++ t := by
  cases w with
  | nil => exact absurd rfl h0
  | cons c r => exact trimL_cons _ (hw c List.mem_cons_self)
/-- Nothing, or a blank and more. -/
def Tail (t : List UInt8) : Prop := t = [] ∨ ∃ x, t = 32 :: x
theorem tail_drop {t : List UInt8} (h : Tail t) : trimL (t.drop 1) = trimL t := by
  rcases h with rfl | ⟨x, rfl⟩
  · rfl
  · rw [trimL_sp]; rfl
theorem tail_app {a t : List UInt8} (h : Tail a) (k : Tail t) : Tail (a ++ t) := by
  rcases h with rfl | ⟨x, rfl⟩
  · exact k
  · exact .inr ⟨x ++ t, rfl⟩
theorem cut_word {w t : List UInt8} (hw : Word w) (h0 : w ≠ []) (ht : Tail t) (s : List UInt8) (bad : Bool) (hs : trimL s = trimL (w ++ t)) : Rd.word ⟨s, bad⟩ = (⟨t.drop 1, bad⟩, w) := by
  have hn : (32 : UInt8) ∉ w := fun h => hw 32 h rfl
  unfold Rd.word
  simp only
  rw [hs, trimL_word hw h0]
  rcases ht with rfl | ⟨x, rfl⟩
  · rw [List.append_nil, cutAt_none hn]
    simp [h0]
  · rw [cutAt_some x hn]
    simp [h0]
def N31 (x : Int) : Prop := 0 ≤ x ∧ x < 2147483648
theorem itoa_pos {x : Int} (h : 0 ≤ x) : Lib.itoa x = Lib.decDigits x.toNat := by unfold Lib.itoa; rw [if_neg (by omega)]
theorem numW_itoa {x : Int} (h : N31 x) : numW (Lib.itoa x) = some x.toNat := by
  rw [itoa_pos h.1]
  unfold numW
  have hb : x.toNat < 2147483648 := by have := h.2; have := h.1; omega
  have hc : Lib.decDigits x.toNat ≠ [] ∧ ((Lib.decDigits x.toNat).all digB = true ∧ (num (Lib.decDigits x.toNat) < 2147483648 ∧ Lib.decDigits (num (Lib.decDigits x.toNat)) = Lib.decDigits x.toNat)) :=
    ⟨dec_ne _, List.all_eq_true.2 fun c hc => digB_of (dec_digit _ c hc), by rw [num_dec]; exact hb, by rw [num_dec]⟩
  rw [if_pos hc, num_dec]
theorem num_at {x : Int} (h : N31 x) {t : List UInt8} (ht : Tail t) (s : List UInt8) (bad : Bool) (hs : trimL s = trimL (numT x ++ t)) : ∃ s', Rd.num ⟨s, bad⟩ = (⟨s', bad⟩, x) ∧ trimL s' = trimL t := by
  refine ⟨t.drop 1, ?_, tail_drop ht⟩
  have hw := cut_word (itoa_word x) (itoa_ne x) ht s bad hs
  unfold Rd.num
  rw [hw]
  simp only
  rw [numW_itoa h]
  simp only
  rw [Int.toNat_of_nonneg h.1]
/-! ### Labels -/
theorem levOf_T : ∀ d, d ≤ 4 → levOf (levT d) = some d := by
  intro d hd
  obtain rfl | rfl | rfl | rfl | rfl : d = 0 ∨ d = 1 ∨ d = 2 ∨ d = 3 ∨ d = 4 := by omega
  all_goals rfl
theorem levT_ch : ∀ d, d ≤ 4 → ∃ c : UInt8, levT d = [c] ∧ (c = 42 ∨ (48 ≤ c.toNat ∧ c.toNat ≤ 51)) := by
  intro d hd
  obtain rfl | rfl | rfl | rfl | rfl : d = 0 ∨ d = 1 ∨ d = 2 ∨ d = 3 ∨ d = 4 := by omega
  · exact ⟨42, rfl, .inl rfl⟩
  · exact ⟨48, rfl, .inr ⟨by decide, by decide⟩⟩
  · exact ⟨49, rfl, .inr ⟨by decide, by decide⟩⟩
  · exact ⟨50, rfl, .inr ⟨by decide, by decide⟩⟩
  · exact ⟨51, rfl, .inr ⟨by decide, by decide⟩⟩
theorem pairsR_all {d : Nat} : ∀ {last : Nat} {ps : List (Nat × Nat)}, pairsR d last ps = true → ∀ p ∈ ps, p.1 ≤ 1073741824 ∧ p.2 ≤ 4
  | _, [], _, p, hp => by cases hp
  | last, q :: r, h, p, hp => by
    unfold pairsR at h
    simp only [Bool.and_eq_true, decide_eq_true_eq] at h
    rcases List.mem_cons.1 hp with rfl | hp
    · exact ⟨h.1.2.1, h.1.2.2.1⟩
    · exact pairsR_all h.2 p hp
theorem Lab.right_spec {l : Lab} (h : l.right = true) : (1 ≤ l.d ∧ l.d ≤ 4) ∧ l.ps.length ≤ 12 ∧ ∀ p ∈ l.ps, p.1 ≤ 1073741824 ∧ p.2 ≤ 4 := by
  unfold Lab.right at h
  simp only [Bool.and_eq_true, decide_eq_true_eq] at h
  exact ⟨⟨h.1.1, h.1.2.1⟩, h.1.2.2, pairsR_all h.2⟩
theorem itoa_nmem (x : Int) {c : UInt8} (h : c.toNat ≠ 45 ∧ (c.toNat < 48 ∨ 57 < c.toNat)) : c ∉ Lib.itoa x := fun hm => by
  have := itoa_char x c hm; omega
theorem levT_nmem {d : Nat} (h : d ≤ 4) {c : UInt8} (hc : c ≠ 42 ∧ (c.toNat < 48 ∨ 51 < c.toNat)) : c ∉ levT d := fun hm => by
  obtain ⟨e, he, h1⟩ := levT_ch d h
  rw [he, List.mem_singleton] at hm
  subst hm
  rcases h1 with rfl | h1
  · exact hc.1 rfl
  · omega
theorem pairsOf_T : ∀ (ps : List (Nat × Nat)), (∀ p ∈ ps, p.1 ≤ 1073741824 ∧ p.2 ≤ 4) → pairsOf (ps.map fun p => Lib.itoa (p.1 : Nat) ++ 58 :: levT p.2) = some ps
  | [], _ => rfl
  | p :: r, h => by
    obtain ⟨h1, h2⟩ := h p List.mem_cons_self
    rw [List.map_cons, pairsOf, cutAt_some _ (itoa_nmem _ ⟨by decide, by decide⟩)]
    simp only
    rw [numW_itoa ⟨by omega, by omega⟩, levOf_T _ h2]
    simp only [Int.toNat_natCast]
    rw [if_pos h1, pairsOf_T r fun q hq => h q (List.mem_cons_of_mem _ hq)]
    rfl
theorem parts_blank : ∀ (a : List UInt8) (ws : List (List UInt8)), (32 : UInt8) ∉ a → (∀ w ∈ ws, (32 : UInt8) ∉ w) → partsAt 32 (a ++ ws.flatMap (32 :: ·)) = a :: ws
  | a, [], ha, _ => by simpa using partsAt_none ha
  | a, w :: r, ha, h => by
    rw [List.flatMap_cons]
    show partsAt 32 (a ++ 32 :: (w ++ r.flatMap (32 :: ·))) = _
    rw [partsAt_some _ ha, parts_blank w r (h w List.mem_cons_self) fun x hx => h x (List.mem_cons_of_mem _ hx)]
theorem pairs_flat (ps : List (Nat × Nat)) : ps.flatMap pairT = (ps.map fun p => Lib.itoa (p.1 : Nat) ++ 58 :: levT p.2).flatMap (32 :: ·) := by
  rw [List.flatMap_map]; rfl
theorem label_at {l : Lab} (h : l.right = true) {t : List UInt8} (ht : Tail t) (s : List UInt8) (bad : Bool) (hs : trimL s = trimL (labT l ++ t)) : ∃ s', Rd.label ⟨s, bad⟩ = (⟨s', bad⟩, l) ∧ trimL s' = trimL t := by
  obtain ⟨⟨d1, d4⟩, hps, hp⟩ := Lab.right_spec h
  refine ⟨t, ?_, rfl⟩
  obtain ⟨i, hi⟩ : ∃ i, levT l.d ++ l.ps.flatMap pairT = i := ⟨_, rfl⟩
  have e : trimL (labT l ++ t) = (123 :: i) ++ 125 :: t := by
    unfold labT
    rw [← hi]
    show trimL (32 :: (123 :: _)) = _
    simp only [trimL_sp]
    rw [trimL_cons _ (by decide)]
    simp
  have hn : (125 : UInt8) ∉ 123 :: i := by
    rw [← hi]
    intro hm
    rcases List.mem_cons.1 hm with h | hm
    · exact absurd h (by decide)
    · rcases List.mem_append.1 hm with hm | hm
      · exact levT_nmem d4 ⟨by decide, by decide⟩ hm
      · obtain ⟨p, hpm, hm⟩ := List.mem_flatMap.1 hm
        unfold pairT at hm
        rcases List.mem_cons.1 hm with h | hm
        · exact absurd h (by decide)
        · rcases List.mem_append.1 hm with hm | hm
          · exact itoa_nmem _ ⟨by decide, by decide⟩ hm
          · rcases List.mem_cons.1 hm with h | hm
            · exact absurd h (by decide)
            · exact levT_nmem (hp p hpm).2 ⟨by decide, by decide⟩ hm
  have hparts : partsAt 32 i = levT l.d :: l.ps.map fun p => Lib.itoa (p.1 : Nat) ++ 58 :: levT p.2 := by
    rw [← hi, pairs_flat]
    refine parts_blank _ _ (levT_nmem d4 ⟨by decide, by decide⟩) fun w hw hm => ?_
    obtain ⟨p, hpm, rfl⟩ := List.mem_map.1 hw
    rcases List.mem_append.1 hm with hm | hm
    · exact itoa_nmem _ ⟨by decide, by decide⟩ hm
    · rcases List.mem_cons.1 hm with h | hm
      · exact absurd h (by decide)
      · exact levT_nmem (hp p hpm).2 ⟨by decide, by decide⟩ hm
  have hlab : labOf (partsAt 32 i) = some l := by
    rw [hparts, labOf, levOf_T _ d4, pairsOf_T _ hp]
    show (if (Lab.right ⟨l.d, l.ps⟩) = true then some (⟨l.d, l.ps⟩ : Lab) else none) = some l
    exact if_pos h
  unfold Rd.label
  simp only
  rw [hs, e, cutAt_some _ hn]
  simp only
  rw [hlab, if_pos]
  rcases ht with rfl | ⟨x, rfl⟩
  · exact .inl rfl
  · exact .inr rfl
/-! ### Bytes -/
theorem hexN_D : ∀ d, d < 16 → hexD1 (hexN d) = some d ∧ hexN d ≠ 32 := by decide
theorem hexOf_T : ∀ b : List UInt8, hexOf (b.flatMap hex2) = some b
  | [] => rfl
  | c :: r => by
    have hc := UInt8.toNat_lt c
    rw [List.flatMap_cons]
    show hexOf (hexN (c.toNat / 16) :: hexN (c.toNat % 16) :: r.flatMap hex2) = _
    rw [hexOf, (hexN_D _ (by omega)).1, (hexN_D _ (Nat.mod_lt _ (by omega))).1, hexOf_T r]
    show some (UInt8.ofNat (c.toNat / 16 * 16 + c.toNat % 16) :: r) = _
    rw [show c.toNat / 16 * 16 + c.toNat % 16 = c.toNat by omega, UInt8.ofNat_toNat]
theorem hex_word (b : List UInt8) : Word (b.flatMap hex2) := fun c hc => by
  obtain ⟨x, _, hx⟩ := List.mem_flatMap.1 hc
  have hlt := UInt8.toNat_lt x
  unfold hex2 at hx
  simp only [List.mem_cons, List.not_mem_nil, or_false] at hx
  rcases hx with rfl | rfl
  · exact (hexN_D _ (by omega)).2
  · exact (hexN_D _ (Nat.mod_lt _ (by omega))).2
theorem hex_at (b : List UInt8) {t : List UInt8} (ht : Tail t) (s : List UInt8) (bad : Bool) (hs : trimL s = trimL (hexT b ++ t)) : ∃ s', Rd.hex ⟨s, bad⟩ = (⟨s', bad⟩, b) ∧ trimL s' = trimL t := by
  refine ⟨t.drop 1, ?_, tail_drop ht⟩
  by_cases hb : b = []
  · subst hb
    have hw := cut_word (w := [45]) (fun c hc => by rw [List.mem_singleton] at hc; subst hc; decide) (by simp) ht s bad hs
    unfold Rd.hex
    rw [hw]
    rfl
  · have e : hexT b = 32 :: b.flatMap hex2 := by unfold hexT; rw [if_neg hb]
    rw [e] at hs
    obtain ⟨c, r, rfl⟩ : ∃ c r, b = c :: r := by cases b with
      | nil => exact absurd rfl hb
      | cons c r => exact ⟨c, r, rfl⟩
    have h2 : (c :: r).flatMap hex2 = hexN (c.toNat / 16) :: hexN (c.toNat % 16) :: r.flatMap hex2 := rfl
    have hw := cut_word (hex_word (c :: r)) (by rw [h2]; simp) ht s bad hs
    unfold Rd.hex
    rw [hw]
    simp only
    rw [if_neg (by rw [h2]; simp), hexOf_T]
/-! ### Maps -/
structure WMap.ok (m : WMap) : Prop where
  a : N31 m.at_
  s : N31 m.seg
  f : N31 m.from_
  n : N31 m.n
theorem itoa_44 (x : Int) : (44 : UInt8) ∉ Lib.itoa x := itoa_nmem x ⟨by decide, by decide⟩
theorem map_at {m : WMap} (h : m.ok) {t : List UInt8} (ht : Tail t) (s : List UInt8) (bad : Bool) (hs : trimL s = trimL (mapT m ++ t)) : ∃ s', Rd.one ⟨s, bad⟩ = (⟨s', bad⟩, m) ∧ trimL s' = trimL t := by
  refine ⟨t.drop 1, ?_, tail_drop ht⟩
  obtain ⟨w, hw⟩ : ∃ w, Lib.itoa m.at_ ++ 44 :: (Lib.itoa m.seg ++ 44 :: (Lib.itoa m.from_ ++ 44 :: (Lib.itoa m.n ++ 44 :: (if m.wr then [119] else [114])))) = w := ⟨_, rfl⟩
  have hl : Word (if m.wr then [119] else [114] : List UInt8) := by
    cases m.wr
    · intro c hc; simp at hc; subst hc; decide
    · intro c hc; simp at hc; subst hc; decide
  have hcm : ∀ l : List UInt8, Word l → ∀ x : Int, Word (Lib.itoa x ++ 44 :: l) := fun l h x c hc => by
    rcases List.mem_append.1 hc with hc | hc
    · exact itoa_word x c hc
    · rcases List.mem_cons.1 hc with rfl | hc
      · decide
      · exact h c hc
  have hww : Word w := by rw [← hw]; exact hcm _ (hcm _ (hcm _ (hcm _ hl _) _) _) _
  have hw0 : w ≠ [] := by rw [← hw]; simp
  have e : mapT m = 32 :: w := by rw [← hw]; rfl
  rw [e] at hs
  have hcut := cut_word hww hw0 ht s bad hs
  have hmap : mapOf w = some m := by
    have hp : partsAt 44 w = [Lib.itoa m.at_, Lib.itoa m.seg, Lib.itoa m.from_, Lib.itoa m.n, if m.wr then [119] else [114]] := by
      rw [← hw, partsAt_some _ (itoa_44 _), partsAt_some _ (itoa_44 _), partsAt_some _ (itoa_44 _), partsAt_some _ (itoa_44 _), partsAt_none]
      cases m.wr <;> decide
    unfold mapOf
    rw [hp]
    simp only
    rw [numW_itoa h.a, numW_itoa h.s, numW_itoa h.f, numW_itoa h.n]
    simp only
    rw [Int.toNat_of_nonneg h.a.1, Int.toNat_of_nonneg h.s.1, Int.toNat_of_nonneg h.f.1, Int.toNat_of_nonneg h.n.1]
    obtain ⟨a, b, c, d, wr⟩ := m
    cases wr <;> rfl
  unfold Rd.one
  rw [hcut]
  simp only
  rw [hmap]
theorem tail_maps (l : List WMap) {t : List UInt8} (ht : Tail t) : Tail (l.flatMap mapT ++ t) := by
  cases l with
  | nil => exact ht
  | cons m r => exact .inr ⟨_, rfl⟩
theorem over_iff (s : List UInt8) (bad : Bool) : Rd.over ⟨s, bad⟩ = decide (trimL s = []) := rfl
theorem mapT_trim (m : WMap) (t : List UInt8) : trimL (mapT m ++ t) ≠ [] := by
  have : mapT m ++ t = 32 :: (Lib.itoa m.at_ ++ (44 :: (Lib.itoa m.seg ++ 44 :: (Lib.itoa m.from_ ++ 44 :: (Lib.itoa m.n ++ 44 :: (if m.wr then [119] else [114])))) ++ t)) := by
    unfold mapT; simp
  rw [this, trimL_sp, trimL_word (itoa_word _) (itoa_ne _)]
  simp
theorem maps_at : ∀ (l : List WMap), (∀ m ∈ l, m.ok) → ∀ (g : Nat) (s : List UInt8), l.length < g → trimL s = trimL (l.flatMap mapT) → ∃ s', Rd.maps g ⟨s, false⟩ = (⟨s', false⟩, l) ∧ trimL s' = []
  | [], _, 0, _, hg, _ => absurd hg (by simp)
  | [], _, g + 1, s, _, hs => by
    refine ⟨s, ?_, hs⟩
    unfold Rd.maps
    rw [if_pos (.inl (by rw [over_iff, hs]; rfl))]
  | m :: r, h, 0, _, hg, _ => absurd hg (by simp)
  | m :: r, h, g + 1, s, hg, hs => by
    rw [List.flatMap_cons] at hs
    obtain ⟨s1, h1, h2⟩ := map_at (h m List.mem_cons_self) (t := r.flatMap mapT) (by have := tail_maps r (t := []) (.inl rfl); rwa [List.append_nil] at this) s false hs
    obtain ⟨s2, h3, h4⟩ := maps_at r (fun x hx => h x (List.mem_cons_of_mem _ hx)) g s1 (by simp at hg; omega) h2
    refine ⟨s2, ?_, h4⟩
    unfold Rd.maps
    have hov : ¬ (Rd.over ⟨s, false⟩ = true ∨ false = true) := by
      rw [over_iff, hs]
      simp only [decide_eq_true_eq, Bool.false_eq_true, or_false]
      exact mapT_trim m _
    rw [if_neg hov, h1]
    simp only
    rw [h3]
end Go.Proofs.YtjjnidbggoaonaaGreatDoor
/- A configuration comes back from its text: objects, lines, the whole. No program. -/
namespace Go.Proofs.YtjjnidbggoaonaaGreatDoor

theorem tail_num (x : Int) (t : List UInt8) : Tail (numT x ++ t) := .inr ⟨_, rfl⟩
theorem tail_lab (l : Lab) (t : List UInt8) : Tail (labT l ++ t) := .inr ⟨123 :: (levT l.d ++ l.ps.flatMap pairT ++ [125] ++ t), by simp [labT]⟩
theorem tail_hex (b t : List UInt8) : Tail (hexT b ++ t) := .inr ⟨_, rfl⟩
theorem tail_nil : Tail [] := .inl rfl
/-- An object without what its kind doesn't use. -/
def WObj.norm (o : WObj) : WObj :=
  if o.kind = 1 then ⟨o.kind, o.parent, o.lab, lab0, o.pages, o.names, [], [], 0, 0⟩
  else if o.kind = 2 then ⟨o.kind, o.parent, o.lab, lab0, o.pages, 0, o.data, [], 0, 0⟩
  else if o.kind = 4 then ⟨o.kind, o.parent, o.lab, lab0, 0, 0, [], o.maps, 0, 0⟩
  else if o.kind = 3 ∨ o.kind = 5 then ⟨o.kind, o.parent, o.lab, o.clr, 0, 0, [], [], o.space, o.pc⟩
  else ⟨o.kind, o.parent, o.lab, lab0, 0, 0, [], [], 0, 0⟩
structure WObj.ok (o : WObj) : Prop where
  kind : 1 ≤ o.kind ∧ o.kind ≤ 6
  par : N31 o.parent
  lab : o.lab.right = true
  norm : o.norm = o
  k1 : o.kind = 1 → N31 o.pages ∧ N31 o.names
  k2 : o.kind = 2 → N31 o.pages
  k4 : o.kind = 4 → ∀ m ∈ o.maps, m.ok
  k35 : o.kind = 3 ∨ o.kind = 5 → o.clr.right = true ∧ N31 o.space ∧ N31 o.pc
theorem nums_at {x y : Int} (hx : N31 x) (hy : N31 y) (s : List UInt8) (hs : trimL s = trimL (numT x ++ numT y)) : ∃ s1 s', Rd.num ⟨s, false⟩ = (⟨s1, false⟩, x) ∧ Rd.num ⟨s1, false⟩ = (⟨s', false⟩, y) ∧ trimL s' = [] := by
  obtain ⟨s1, h1, h2⟩ := num_at hx (t := numT y) (by have := tail_num y []; rwa [List.append_nil] at this) s false hs
  obtain ⟨s2, h3, h4⟩ := num_at hy tail_nil s1 false (by rw [List.append_nil]; exact h2)
  exact ⟨s1, s2, h1, h3, h4⟩
theorem maps_room (l : List WMap) (s : List UInt8) (hs : trimL s = trimL (l.flatMap mapT)) : l.length < s.length + 1 := by
  have h1 : (trimL s).length ≤ s.length := by unfold trimL; exact List.Sublist.length_le (List.dropWhile_sublist _)
  have h2 : l.length ≤ (trimL (l.flatMap mapT)).length := by
    cases l with
    | nil => simp
    | cons m r =>
      have e : (m :: r).flatMap mapT = 32 :: ((Lib.itoa m.at_ ++ 44 :: (Lib.itoa m.seg ++ 44 :: (Lib.itoa m.from_ ++ 44 :: (Lib.itoa m.n ++ 44 :: (if m.wr then [119] else [114]))))) ++ r.flatMap mapT) := rfl
      have h3 : ∀ q : List WMap, q.length ≤ (q.flatMap mapT).length := fun q => by
        induction q with
        | nil => simp
        | cons x y ih => rw [List.flatMap_cons, List.length_append, List.length_cons]; have : 1 ≤ (mapT x).length := by simp [mapT]
                         omega
      have h4 := h3 r
      rw [e, trimL_sp, List.append_assoc, trimL_word (itoa_word _) (itoa_ne _)]
      simp only [List.length_append, List.length_cons]
      omega
  rw [hs] at h1
  omega
theorem object_at {o : WObj} (h : o.ok) (s : List UInt8) (hs : trimL s = trimL (numT o.parent ++ (labT o.lab ++ partT o))) : ∃ s', Rd.object ⟨s, false⟩ o.kind.toNat = (⟨s', false⟩, o) ∧ trimL s' = [] := by
  have htp : Tail (partT o) := by
    unfold partT
    split
    · exact tail_num _ _
    · split
      · exact tail_num _ _
      · split
        · have := tail_maps o.maps tail_nil; rwa [List.append_nil] at this
        · split
          · exact tail_lab _ _
          · exact tail_nil
  obtain ⟨s1, h1, h2⟩ := num_at h.par (tail_lab o.lab (partT o)) s false hs
  obtain ⟨s2, h3, h4⟩ := label_at h.lab htp s1 false h2
  have hk : ((o.kind.toNat : Nat) : Int) = o.kind := Int.toNat_of_nonneg (by have := h.kind.1; omega)
  obtain ⟨kd, par, lab, clr, pages, names, data, maps, space, pc⟩ := o
  have hn := h.norm
  have hkd := h.kind
  unfold WObj.norm at hn
  simp only at h1 h2 h3 h4 hk hn hkd ⊢
  obtain rfl | rfl | rfl | rfl | rfl | rfl : kd = 1 ∨ kd = 2 ∨ kd = 3 ∨ kd = 4 ∨ kd = 5 ∨ kd = 6 := by omega
  · obtain ⟨n1, n2⟩ := h.k1 rfl
    obtain ⟨s3, s4, h5, h6, h7⟩ := nums_at n1 n2 s2 h4
    refine ⟨s4, ?_, h7⟩
    unfold Rd.object
    rw [h1]
    simp only
    rw [h3]
    simp only [Int.toNat_one, if_true]
    rw [h5]
    simp only
    rw [h6]
    exact congrArg (Prod.mk _) hn
  · have n1 := h.k2 rfl
    obtain ⟨s3, h5, h6⟩ := num_at n1 (by have := tail_hex data []; rwa [List.append_nil] at this) s2 false h4
    obtain ⟨s4, h7, h8⟩ := hex_at data tail_nil s3 false (by rw [List.append_nil]; exact h6)
    refine ⟨s4, ?_, h8⟩
    unfold Rd.object
    rw [h1]
    simp only
    rw [h3]
    simp only [show (2 : Int).toNat = 2 from rfl, show ¬ (2 : Nat) = 1 by decide, if_true, if_false]
    rw [h5]
    simp only
    rw [h7]
    exact congrArg (Prod.mk _) hn
  · obtain ⟨n1, n2, n3⟩ := h.k35 (.inl rfl)
    obtain ⟨s3, h5, h6⟩ := label_at n1 (tail_num space (numT pc)) s2 false h4
    obtain ⟨s4, s5, h7, h8, h9⟩ := nums_at n2 n3 s3 h6
    refine ⟨s5, ?_, h9⟩
    unfold Rd.object
    rw [h1]
    simp only
    rw [h3]
    simp only [show (3 : Int).toNat = 3 from rfl, show ¬ (3 : Nat) = 1 by decide, show ¬ (3 : Nat) = 2 by decide, show ¬ (3 : Nat) = 4 by decide, true_or, if_true, if_false]
    rw [h5]
    simp only
    rw [h7]
    simp only
    rw [h8]
    exact congrArg (Prod.mk _) hn
  · have n1 := h.k4 rfl
    obtain ⟨s3, h5, h6⟩ := maps_at maps n1 (s2.length + 1) s2 (maps_room maps s2 h4) h4
    refine ⟨s3, ?_, h6⟩
    unfold Rd.object
    rw [h1]
    simp only
    rw [h3]
    simp only [show (4 : Int).toNat = 4 from rfl, show ¬ (4 : Nat) = 1 by decide, show ¬ (4 : Nat) = 2 by decide, if_true, if_false]
    rw [h5]
    exact congrArg (Prod.mk _) hn
  · obtain ⟨n1, n2, n3⟩ := h.k35 (.inr rfl)
    obtain ⟨s3, h5, h6⟩ := label_at n1 (tail_num space (numT pc)) s2 false h4
    obtain ⟨s4, s5, h7, h8, h9⟩ := nums_at n2 n3 s3 h6
    refine ⟨s5, ?_, h9⟩
    unfold Rd.object
    rw [h1]
    simp only
    rw [h3]
    simp only [show (5 : Int).toNat = 5 from rfl, show ¬ (5 : Nat) = 1 by decide, show ¬ (5 : Nat) = 2 by decide, show ¬ (5 : Nat) = 4 by decide, or_true, if_true, if_false]
    rw [h5]
    simp only
    rw [h7]
    simp only
    rw [h8]
    exact congrArg (Prod.mk _) hn
  · refine ⟨s2, ?_, h4⟩
    unfold Rd.object
    rw [h1]
    simp only
    rw [h3]
    simp only [show (6 : Int).toNat = 6 from rfl, show ¬ (6 : Nat) = 1 by decide, show ¬ (6 : Nat) = 2 by decide, show ¬ (6 : Nat) = 4 by decide, show ¬ ((6 : Nat) = 3 ∨ (6 : Nat) = 5) by decide, if_false]
    exact congrArg (Prod.mk _) hn
/-! ### Lines -/
structure WCfg.ok (c : WCfg) : Prop where
  co : N31 c.cores
  fr : N31 c.frames
  nm : N31 c.names
  sl : ∀ s ∈ c.slots, N31 s.1 ∧ N31 s.2
  ob : ∀ o ∈ c.objs, o.ok
theorem word_dec (w : List UInt8) (h : w.all (· != 32) = true) : Word w := fun c hc => by
  have := List.all_eq_true.1 h c hc
  simpa using this
theorem head_at {c : WCfg} (h : c.ok) : readHead (headT c) = (false, ⟨c.cores, c.frames, c.names, [], []⟩) := by
  have hw := cut_word (w := machW) (word_dec _ (by decide)) (by decide) (tail_num c.cores (numT c.frames ++ numT c.names)) (headT c) false rfl
  obtain ⟨s1, h1, h2⟩ := num_at h.co (tail_num c.frames (numT c.names)) ((numT c.cores ++ (numT c.frames ++ numT c.names)).drop 1) false (tail_drop (tail_num _ _))
  obtain ⟨s2, s3, h3, h4, h5⟩ := nums_at h.fr h.nm s1 h2
  unfold readHead
  rw [hw]
  simp only
  rw [h1]
  simp only
  rw [h3]
  simp only
  rw [h4]
  simp [Rd.over, h5]
theorem slots_at : ∀ (l : List (Int × Int)), (∀ s ∈ l, N31 s.1 ∧ N31 s.2) → ∀ (r : List (List UInt8)) (c : WCfg), c.objs = [] → readLines (l.map slotT ++ r) false c = readLines r false { c with slots := c.slots ++ l }
  | [], _, r, c, _ => by simp
  | x :: l, h, r, c, ho => by
    obtain ⟨n1, n2⟩ := h x List.mem_cons_self
    have hw := cut_word (w := slotW) (word_dec _ (by decide)) (by decide) (tail_num x.1 (numT x.2)) (slotT x) false rfl
    obtain ⟨s2, s3, h3, h4, h5⟩ := nums_at n1 n2 ((numT x.1 ++ numT x.2).drop 1) (tail_drop (tail_num _ _))
    rw [List.map_cons, List.cons_append, readLines]
    rw [hw]
    simp only
    rw [if_pos ⟨trivial, ho⟩, h3]
    simp only
    rw [h4]
    simp only [Rd.over, h5]
    have := slots_at l (fun s hs => h s (List.mem_cons_of_mem _ hs)) r { c with slots := c.slots ++ [(x.1, x.2)] } ho
    simpa using this
theorem kind_word : ∀ k : Nat, 1 ≤ k → k ≤ 6 → (kindW.getD k []).all (· != 32) = true ∧ kindW.getD k [] ≠ [] ∧ kindW.getD k [] ≠ slotW ∧ kindOf (kindW.getD k []) = k := by
  intro k h0 h1
  obtain rfl | rfl | rfl | rfl | rfl | rfl : k = 1 ∨ k = 2 ∨ k = 3 ∨ k = 4 ∨ k = 5 ∨ k = 6 := by omega
  all_goals exact ⟨by decide, by decide, by decide, by decide⟩
theorem objs_at : ∀ (l : List WObj), (∀ o ∈ l, o.ok) → ∀ (c : WCfg), readLines (l.map objT) false c = (false, { c with objs := c.objs ++ l })
  | [], _, c => by simp [readLines]
  | o :: l, h, c => by
    have ho := h o List.mem_cons_self
    have hkd := ho.kind
    obtain ⟨w1, w2, w3, w4⟩ := kind_word o.kind.toNat (by omega) (by omega)
    have hw := cut_word (word_dec _ w1) w2 (tail_num o.parent (labT o.lab ++ partT o)) (objT o) false rfl
    obtain ⟨s', h1, h2⟩ := object_at ho ((numT o.parent ++ (labT o.lab ++ partT o)).drop 1) (tail_drop (tail_num _ _))
    rw [List.map_cons, readLines]
    rw [hw]
    simp only
    rw [if_neg (fun hh => w3 hh.1), w4, h1]
    have hk0 : decide (o.kind.toNat = 0) = false := decide_eq_false (by omega)
    simp only [Rd.over, h2, hk0]
    have := objs_at l (fun s hs => h s (List.mem_cons_of_mem _ hs)) { c with objs := c.objs ++ [o] }
    simpa using this
theorem lines_at {c : WCfg} (h : c.ok) : readLines (c.slots.map slotT ++ c.objs.map objT) (readHead (headT c)).1 (readHead (headT c)).2 = (false, c) := by
  rw [head_at h]
  simp only
  rw [slots_at _ h.sl _ _ rfl, objs_at _ h.ob]
  rfl
/-! ### What lines are of -/
structure EndOk (l : List UInt8) : Prop where
  ne : l ≠ []
  last : ∀ c, l.getLast? = some c → c ≠ 32
  nl : (10 : UInt8) ∉ l
theorem EndOk.append {l m : List UInt8} (h : EndOk l) (k : m = [] ∨ EndOk m) : EndOk (l ++ m) := by
  rcases k with rfl | k
  · rwa [List.append_nil]
  · refine ⟨by simp [h.ne], fun c hc => ?_, fun hm => (List.mem_append.1 hm).elim h.nl k.nl⟩
    rw [getLast_app k.ne] at hc
    exact k.last c hc
theorem EndOk.of (l : List UInt8) (c : UInt8) (hc : c ≠ 32 ∧ c ≠ 10) (hl : (10 : UInt8) ∉ l) : EndOk (l ++ [c]) := by
  refine ⟨by simp, fun d hd => ?_, fun hm => ?_⟩
  · rw [getLast_app (by simp)] at hd; simp at hd; rw [← hd]; exact hc.1
  · rcases List.mem_append.1 hm with h | h
    · exact hl h
    · rw [List.mem_singleton] at h; exact hc.2 h.symm
theorem EndOk.word {w : List UInt8} (hw : Word w) (h0 : w ≠ []) (hn : (10 : UInt8) ∉ w) : EndOk w :=
  ⟨h0, fun c hc => hw c (List.mem_of_getLast? hc), hn⟩
theorem EndOk.cons {l : List UInt8} (h : EndOk l) (c : UInt8) (hc : c ≠ 10) : EndOk (c :: l) := by
  refine ⟨by simp, fun d hd => ?_, fun hm => ?_⟩
  · have : (c :: l).getLast? = l.getLast? := getLast_app (l := [c]) h.ne
    rw [this] at hd; exact h.last d hd
  · rcases List.mem_cons.1 hm with e | hm
    · exact hc e.symm
    · exact h.nl hm
theorem end_itoa (x : Int) : EndOk (Lib.itoa x) := EndOk.word (itoa_word x) (itoa_ne x) (itoa_nmem x ⟨by decide, by decide⟩)
theorem end_num (x : Int) : EndOk (numT x) := (end_itoa x).cons 32 (by decide)
theorem end_lab {l : Lab} (h : l.right = true) : EndOk (labT l) := by
  obtain ⟨⟨d1, d4⟩, hps, hp⟩ := Lab.right_spec h
  refine EndOk.of _ 125 ⟨by decide, by decide⟩ fun hm => ?_
  rcases List.mem_append.1 hm with hm | hm
  · rcases List.mem_append.1 hm with hm | hm
    · revert hm; decide
    · exact levT_nmem d4 ⟨by decide, by decide⟩ hm
  · obtain ⟨p, hpm, hm⟩ := List.mem_flatMap.1 hm
    unfold pairT at hm
    rcases List.mem_cons.1 hm with e | hm
    · exact absurd e (by decide)
    · rcases List.mem_append.1 hm with hm | hm
      · exact itoa_nmem _ ⟨by decide, by decide⟩ hm
      · rcases List.mem_cons.1 hm with e | hm
        · exact absurd e (by decide)
        · exact levT_nmem (hp p hpm).2 ⟨by decide, by decide⟩ hm
theorem hexN_nl : ∀ d, d < 16 → hexN d ≠ 10 := by decide
theorem end_hex (b : List UInt8) : EndOk (hexT b) := by
  unfold hexT
  split
  · exact ⟨by simp, fun c hc => by simp at hc; rw [← hc]; decide, by decide⟩
  · rename_i hb
    refine (EndOk.word (hex_word b) ?_ fun hm => ?_).cons 32 (by decide)
    · cases b with
      | nil => exact absurd rfl hb
      | cons c r => rw [List.flatMap_cons]; simp [hex2]
    · obtain ⟨x, _, hx⟩ := List.mem_flatMap.1 hm
      have hlt := UInt8.toNat_lt x
      unfold hex2 at hx
      simp only [List.mem_cons, List.not_mem_nil, or_false] at hx
      rcases hx with hx | hx
      · exact hexN_nl _ (by omega) hx.symm
      · exact hexN_nl _ (Nat.mod_lt _ (by omega)) hx.symm
theorem end_map (m : WMap) : EndOk (mapT m) := by
  have hl : EndOk (if m.wr then [119] else [114] : List UInt8) := by
    cases m.wr
    · exact ⟨by simp, fun c hc => by simp at hc; rw [← hc]; decide, by decide⟩
    · exact ⟨by simp, fun c hc => by simp at hc; rw [← hc]; decide, by decide⟩
  have st : ∀ {l : List UInt8}, EndOk l → ∀ x : Int, EndOk (Lib.itoa x ++ 44 :: l) := fun h x => (end_itoa x).append (.inr (h.cons 44 (by decide)))
  exact (st (st (st (st hl _) _) _) _).cons 32 (by decide)
theorem end_maps : ∀ l : List WMap, l.flatMap mapT = [] ∨ EndOk (l.flatMap mapT)
  | [] => .inl rfl
  | m :: r => by rw [List.flatMap_cons]; exact .inr ((end_map m).append (end_maps r))
theorem end_part {o : WObj} (h : o.ok) : partT o = [] ∨ EndOk (partT o) := by
  unfold partT
  split
  · exact .inr ((end_num _).append (.inr (end_num _)))
  · split
    · exact .inr ((end_num _).append (.inr (end_hex _)))
    · split
      · exact end_maps _
      · split
        · rename_i hk; exact .inr ((end_lab (h.k35 hk).1).append (.inr ((end_num _).append (.inr (end_num _)))))
        · exact .inl rfl
/-- A line as it is printed. -/
structure LineOkW (l : List UInt8) : Prop where
  e : EndOk l
  h : ∀ c, l.head? = some c → c ≠ 32 ∧ c ≠ 35
theorem line_of {w t : List UInt8} (hw : EndOk w) (hh : ∀ c, w.head? = some c → c ≠ 32 ∧ c ≠ 35) (ht : EndOk t) : LineOkW (w ++ t) := by
  refine ⟨hw.append (.inr ht), fun c hc => hh c ?_⟩
  obtain ⟨x, r, rfl⟩ : ∃ x r, w = x :: r := by
    cases w with
    | nil => exact absurd rfl hw.ne
    | cons x r => exact ⟨x, r, rfl⟩
  simpa using hc
theorem LineOkW.trim {l : List UInt8} (h : LineOkW l) : trimS l = l := by
  have h1 : trimL l = l := by
    obtain ⟨x, r, rfl⟩ : ∃ x r, l = x :: r := by
      cases l with
      | nil => exact absurd rfl h.e.ne
      | cons x r => exact ⟨x, r, rfl⟩
    exact trimL_cons _ (h.h x rfl).1
  have h2 : trimL l.reverse = l.reverse := by
    cases hr : l.reverse with
    | nil => rfl
    | cons x r =>
      refine trimL_cons _ (h.e.last x ?_)
      rw [← List.head?_reverse, hr]; rfl
  unfold trimS
  rw [h2, List.reverse_reverse, h1]
theorem kind_end : ∀ k : Nat, 1 ≤ k → k ≤ 6 → EndOk (kindW.getD k []) ∧ ∀ c, (kindW.getD k []).head? = some c → c ≠ 32 ∧ c ≠ 35 := by
  intro k h0 h1
  obtain ⟨w1, w2, -, -⟩ := kind_word k h0 h1
  refine ⟨EndOk.word (word_dec _ w1) w2 ?_, ?_⟩
  · obtain rfl | rfl | rfl | rfl | rfl | rfl : k = 1 ∨ k = 2 ∨ k = 3 ∨ k = 4 ∨ k = 5 ∨ k = 6 := by omega
    all_goals decide
  · obtain rfl | rfl | rfl | rfl | rfl | rfl : k = 1 ∨ k = 2 ∨ k = 3 ∨ k = 4 ∨ k = 5 ∨ k = 6 := by omega
    all_goals (intro c hc; simp [kindW] at hc; subst hc; decide)
theorem lines_ok {c : WCfg} (h : c.ok) : ∀ l ∈ linesT c, LineOkW l := by
  intro l hl
  unfold linesT at hl
  rcases List.mem_cons.1 hl with rfl | hl
  · exact line_of (EndOk.word (word_dec _ (by decide)) (by decide) (by decide)) (fun c hc => by simp [machW] at hc; subst hc; decide) ((end_num _).append (.inr ((end_num _).append (.inr (end_num _)))))
  · rcases List.mem_append.1 hl with hl | hl
    · obtain ⟨s, _, rfl⟩ := List.mem_map.1 hl
      exact line_of (EndOk.word (word_dec _ (by decide)) (by decide) (by decide)) (fun c hc => by simp [slotW] at hc; subst hc; decide) ((end_num _).append (.inr (end_num _)))
    · obtain ⟨o, ho, rfl⟩ := List.mem_map.1 hl
      have hk := h.ob o ho
      have hkd := hk.kind
      obtain ⟨e1, e2⟩ := kind_end o.kind.toNat (by omega) (by omega)
      exact line_of e1 e2 ((end_num _).append (.inr ((end_lab hk.lab).append (end_part hk))))
theorem parts_lines : ∀ ls : List (List UInt8), (∀ l ∈ ls, (10 : UInt8) ∉ l) → partsAt 10 (ls.flatMap fun l => l ++ [10]) = ls ++ [[]]
  | [], _ => rfl
  | l :: r, h => by
    have e : (l :: r).flatMap (fun l => l ++ [10]) = l ++ 10 :: (r.flatMap fun l => l ++ [10]) := by simp
    rw [e, partsAt_some _ (h l List.mem_cons_self), parts_lines r fun x hx => h x (List.mem_cons_of_mem _ hx)]
    rfl
theorem lines_print {c : WCfg} (h : c.ok) : linesOf (printT c) = linesT c := by
  have hl := lines_ok h
  unfold linesOf printT
  rw [parts_lines _ fun l hm => (hl l hm).e.nl, List.map_append, List.filter_append]
  have e1 : (linesT c).map trimS = linesT c := by
    rw [List.map_congr_left (g := id) fun l hm => (hl l hm).trim, List.map_id]
  have e2 : (linesT c).filter (fun l => l.head? != none && l.head? != some 35) = linesT c := by
    refine List.filter_eq_self.2 fun l hm => ?_
    have hk := hl l hm
    obtain ⟨x, r, rfl⟩ : ∃ x r, l = x :: r := by
      cases l with
      | nil => exact absurd rfl hk.e.ne
      | cons x r => exact ⟨x, r, rfl⟩
    have := (hk.h x rfl).2
    simp [this]
  rw [e1, e2]
  simp [trimS, trimL]
/-- A configuration comes back from its text. -/
theorem parse_print {c : WCfg} (h : c.ok) (hl : (printT c).length ≤ 65536) : parseT (printT c) = some c := by
  unfold parseT
  rw [if_neg (by omega), lines_print h]
  unfold linesT
  simp only
  rw [lines_at h]
  rfl
end Go.Proofs.YtjjnidbggoaonaaGreatDoor
/- A configuration's text with more blanks, empty lines and comments. No program. -/
namespace Go.Proofs.YtjjnidbggoaonaaGreatDoor

/-- Tokens, each behind a blank and some more. -/
def wide : List Nat → List (List UInt8) → List UInt8
  | _, [] => []
  | [], w :: ws => 32 :: (w ++ wide [] ws)
  | k :: ks, w :: ws => 32 :: (List.replicate k 32 ++ (w ++ wide ks ws))
theorem tail_wide (ks : List Nat) (ws : List (List UInt8)) : Tail (wide ks ws) := by
  cases ws with
  | nil => cases ks <;> exact .inl rfl
  | cons w ws => cases ks <;> exact .inr ⟨_, rfl⟩
theorem trimL_rep (k : Nat) (t : List UInt8) : trimL (List.replicate k 32 ++ t) = trimL t := by
  induction k with
  | zero => rfl
  | succ k ih => rw [List.replicate_succ, List.cons_append, trimL_sp, ih]
/-- What is left tells these tokens. -/
def Has (s : List UInt8) (ws : List (List UInt8)) : Prop := ∃ ks, trimL s = trimL (wide ks ws)
theorem Has.cons {s w : List UInt8} {ws : List (List UInt8)} (h : Has s (w :: ws)) : ∃ ks, trimL s = trimL (32 :: (w ++ wide ks ws)) := by
  obtain ⟨ks, h⟩ := h
  cases ks with
  | nil => exact ⟨[], h⟩
  | cons k ks => exact ⟨ks, by rw [h]; show trimL (32 :: _) = _; rw [trimL_sp, trimL_rep, trimL_sp]⟩
theorem Has.nil {s : List UInt8} (h : Has s []) : trimL s = [] := by
  obtain ⟨ks, h⟩ := h
  rw [h]; cases ks <;> rfl
theorem Has.of {s : List UInt8} (ks : List Nat) {ws : List (List UInt8)} (h : trimL s = trimL (wide ks ws)) : Has s ws := ⟨ks, h⟩
/-! ### The tokens -/
def labK (l : Lab) : List UInt8 := 123 :: (levT l.d ++ l.ps.flatMap pairT ++ [125])
def hexK (b : List UInt8) : List UInt8 := if b = [] then [45] else b.flatMap hex2
def mapK (m : WMap) : List UInt8 := Lib.itoa m.at_ ++ 44 :: (Lib.itoa m.seg ++ 44 :: (Lib.itoa m.from_ ++ 44 :: (Lib.itoa m.n ++ 44 :: (if m.wr then [119] else [114]))))
def partK (o : WObj) : List (List UInt8) :=
  if o.kind = 1 then [Lib.itoa o.pages, Lib.itoa o.names]
  else if o.kind = 2 then [Lib.itoa o.pages, hexK o.data]
  else if o.kind = 4 then o.maps.map mapK
  else if o.kind = 3 ∨ o.kind = 5 then [labK o.clr, Lib.itoa o.space, Lib.itoa o.pc]
  else []
def objK (o : WObj) : List (List UInt8) := Lib.itoa o.parent :: labK o.lab :: partK o
def slotK (s : Int × Int) : List (List UInt8) := [Lib.itoa s.1, Lib.itoa s.2]
def headK (c : WCfg) : List (List UInt8) := [Lib.itoa c.cores, Lib.itoa c.frames, Lib.itoa c.names]
/-- Lines: a word, and the tokens behind it. -/
def linesK (c : WCfg) : List (List UInt8 × List (List UInt8)) := (machW, headK c) :: (c.slots.map (fun s => (slotW, slotK s)) ++ c.objs.map fun o => (kindW.getD o.kind.toNat [], objK o))
theorem labK_T (l : Lab) : labT l = 32 :: labK l := by simp [labT, labK]
theorem hexK_T (b : List UInt8) : hexT b = 32 :: hexK b := rfl
theorem mapK_T (m : WMap) : mapT m = 32 :: mapK m := rfl
theorem partK_T (o : WObj) : partT o = wide [] (partK o) := by
  unfold partT partK
  split
  · simp [wide, numT]
  · split
    · simp [wide, numT, hexK_T]
    · split
      · induction o.maps with
        | nil => rfl
        | cons m r ih => rw [List.flatMap_cons, List.map_cons, ih, mapK_T]; simp [wide]
      · split
        · simp [wide, numT, labK_T]
        · rfl
theorem objK_T (o : WObj) : objT o = kindW.getD o.kind.toNat [] ++ wide [] (objK o) := by
  unfold objT objK
  rw [partK_T, labK_T]
  simp [wide, numT]
theorem linesK_T (c : WCfg) : linesT c = (linesK c).map fun p => p.1 ++ wide [] p.2 := by
  unfold linesT linesK
  rw [List.map_cons, List.map_append, List.map_map, List.map_map]
  refine congr (congrArg List.cons ?_) (congr (congrArg HAppend.hAppend ?_) ?_)
  · simp [headT, headK, wide, numT]
  · refine List.map_congr_left fun s _ => ?_
    simp [slotT, slotK, wide, numT]
  · exact List.map_congr_left fun o _ => objK_T o
/-! ### Reading wide lines -/
theorem num_has {x : Int} (h : N31 x) {ws : List (List UInt8)} (s : List UInt8) (bad : Bool) (hs : Has s (Lib.itoa x :: ws)) : ∃ s', Rd.num ⟨s, bad⟩ = (⟨s', bad⟩, x) ∧ Has s' ws := by
  obtain ⟨ks, hs⟩ := hs.cons
  obtain ⟨s', h1, h2⟩ := num_at h (tail_wide ks ws) s bad hs
  exact ⟨s', h1, ks, h2⟩
theorem label_has {l : Lab} (h : l.right = true) {ws : List (List UInt8)} (s : List UInt8) (bad : Bool) (hs : Has s (labK l :: ws)) : ∃ s', Rd.label ⟨s, bad⟩ = (⟨s', bad⟩, l) ∧ Has s' ws := by
  obtain ⟨ks, hs⟩ := hs.cons
  obtain ⟨s', h1, h2⟩ := label_at h (tail_wide ks ws) s bad (by rw [hs, labK_T]; rfl)
  exact ⟨s', h1, ks, h2⟩
theorem hex_has (b : List UInt8) {ws : List (List UInt8)} (s : List UInt8) (bad : Bool) (hs : Has s (hexK b :: ws)) : ∃ s', Rd.hex ⟨s, bad⟩ = (⟨s', bad⟩, b) ∧ Has s' ws := by
  obtain ⟨ks, hs⟩ := hs.cons
  obtain ⟨s', h1, h2⟩ := hex_at b (tail_wide ks ws) s bad (by rw [hs, hexK_T]; rfl)
  exact ⟨s', h1, ks, h2⟩
theorem map_has {m : WMap} (h : m.ok) {ws : List (List UInt8)} (s : List UInt8) (bad : Bool) (hs : Has s (mapK m :: ws)) : ∃ s', Rd.one ⟨s, bad⟩ = (⟨s', bad⟩, m) ∧ Has s' ws := by
  obtain ⟨ks, hs⟩ := hs.cons
  obtain ⟨s', h1, h2⟩ := map_at h (tail_wide ks ws) s bad (by rw [hs, mapK_T]; rfl)
  exact ⟨s', h1, ks, h2⟩
theorem Has.over {s : List UInt8} {m : WMap} {ws : List (List UInt8)} (h : Has s (mapK m :: ws)) : trimL s ≠ [] := by
  obtain ⟨ks, hs⟩ := h.cons
  rw [hs]
  exact mapT_trim m _
theorem maps_has : ∀ (l : List WMap), (∀ m ∈ l, m.ok) → ∀ (g : Nat) (s : List UInt8), l.length < g → Has s (l.map mapK) → ∃ s', Rd.maps g ⟨s, false⟩ = (⟨s', false⟩, l) ∧ Has s' []
  | [], _, 0, _, hg, _ => absurd hg (by simp)
  | [], _, g + 1, s, _, hs => by
    refine ⟨s, ?_, hs⟩
    unfold Rd.maps
    rw [if_pos (.inl (by rw [over_iff, hs.nil]; rfl))]
  | m :: r, h, 0, _, hg, _ => absurd hg (by simp)
  | m :: r, h, g + 1, s, hg, hs => by
    obtain ⟨s1, h1, h2⟩ := map_has (h m List.mem_cons_self) s false hs
    obtain ⟨s2, h3, h4⟩ := maps_has r (fun x hx => h x (List.mem_cons_of_mem _ hx)) g s1 (by simp at hg; omega) h2
    refine ⟨s2, ?_, h4⟩
    unfold Rd.maps
    have hov : ¬ (Rd.over ⟨s, false⟩ = true ∨ false = true) := by
      rw [over_iff]
      simp only [decide_eq_true_eq, Bool.false_eq_true, or_false]
      exact Has.over hs
    rw [if_neg hov, h1]
    simp only
    rw [h3]
theorem wide_len (ks : List Nat) : ∀ (ws : List (List UInt8)), ws.length ≤ (wide ks ws).length := by
  intro ws
  induction ws generalizing ks with
  | nil => exact Nat.zero_le _
  | cons w ws ih => cases ks with
    | nil => have := ih []; simp only [wide, List.length_cons, List.length_append]; omega
    | cons k ks => have := ih ks; simp only [wide, List.length_cons, List.length_append]; omega
theorem room_has (l : List WMap) (s : List UInt8) (hs : Has s (l.map mapK)) : l.length < s.length + 1 := by
  have h1 : (trimL s).length ≤ s.length := by unfold trimL; exact List.Sublist.length_le (List.dropWhile_sublist _)
  cases l with
  | nil => simp
  | cons m r =>
    obtain ⟨ks, hk⟩ := Has.cons hs
    have e : trimL (32 :: (mapK m ++ wide ks (r.map mapK))) = mapK m ++ wide ks (r.map mapK) := by
      unfold mapK
      rw [trimL_sp, List.append_assoc, trimL_word (itoa_word _) (itoa_ne _)]
    have h2 := wide_len ks (r.map mapK)
    rw [hk, e, List.length_append] at h1
    have h3 : 1 ≤ (mapK m).length := by unfold mapK; simp; omega
    simp only [List.length_map] at h2
    simp only [List.length_cons]
    omega
theorem object_has {o : WObj} (h : o.ok) (s : List UInt8) (hs : Has s (objK o)) : ∃ s', Rd.object ⟨s, false⟩ o.kind.toNat = (⟨s', false⟩, o) ∧ Has s' [] := by
  obtain ⟨s1, h1, h2⟩ := num_has h.par s false hs
  obtain ⟨s2, h3, h4⟩ := label_has h.lab s1 false h2
  have hk : ((o.kind.toNat : Nat) : Int) = o.kind := Int.toNat_of_nonneg (by have := h.kind.1; omega)
  obtain ⟨kd, par, lab, clr, pages, names, data, maps, space, pc⟩ := o
  have hn := h.norm
  have hkd := h.kind
  unfold WObj.norm at hn
  simp only at h1 h2 h3 h4 hk hn hkd ⊢
  obtain rfl | rfl | rfl | rfl | rfl | rfl : kd = 1 ∨ kd = 2 ∨ kd = 3 ∨ kd = 4 ∨ kd = 5 ∨ kd = 6 := by omega
  · obtain ⟨n1, n2⟩ := h.k1 rfl
    obtain ⟨s3, h5, h6⟩ := num_has n1 s2 false h4
    obtain ⟨s4, h7, h8⟩ := num_has n2 s3 false h6
    refine ⟨s4, ?_, h8⟩
    unfold Rd.object
    rw [h1]
    simp only
    rw [h3]
    simp only [Int.toNat_one, if_true]
    rw [h5]
    simp only
    rw [h7]
    exact congrArg (Prod.mk _) hn
  · have n1 := h.k2 rfl
    obtain ⟨s3, h5, h6⟩ := num_has n1 s2 false h4
    obtain ⟨s4, h7, h8⟩ := hex_has data s3 false h6
    refine ⟨s4, ?_, h8⟩
    unfold Rd.object
    rw [h1]
    simp only
    rw [h3]
    simp only [show (2 : Int).toNat = 2 from rfl, show ¬ (2 : Nat) = 1 by decide, if_true, if_false]
    rw [h5]
    simp only
    rw [h7]
    exact congrArg (Prod.mk _) hn
  · obtain ⟨n1, n2, n3⟩ := h.k35 (.inl rfl)
    obtain ⟨s3, h5, h6⟩ := label_has n1 s2 false h4
    obtain ⟨s4, h7, h8⟩ := num_has n2 s3 false h6
    obtain ⟨s5, h9, h10⟩ := num_has n3 s4 false h8
    refine ⟨s5, ?_, h10⟩
    unfold Rd.object
    rw [h1]
    simp only
    rw [h3]
    simp only [show (3 : Int).toNat = 3 from rfl, show ¬ (3 : Nat) = 1 by decide, show ¬ (3 : Nat) = 2 by decide, show ¬ (3 : Nat) = 4 by decide, true_or, if_true, if_false]
    rw [h5]
    simp only
    rw [h7]
    simp only
    rw [h9]
    exact congrArg (Prod.mk _) hn
  · have n1 := h.k4 rfl
    obtain ⟨s3, h5, h6⟩ := maps_has maps n1 (s2.length + 1) s2 (room_has maps s2 h4) h4
    refine ⟨s3, ?_, h6⟩
    unfold Rd.object
    rw [h1]
    simp only
    rw [h3]
    simp only [show (4 : Int).toNat = 4 from rfl, show ¬ (4 : Nat) = 1 by decide, show ¬ (4 : Nat) = 2 by decide, if_true, if_false]
    rw [h5]
    exact congrArg (Prod.mk _) hn
  · obtain ⟨n1, n2, n3⟩ := h.k35 (.inr rfl)
    obtain ⟨s3, h5, h6⟩ := label_has n1 s2 false h4
    obtain ⟨s4, h7, h8⟩ := num_has n2 s3 false h6
    obtain ⟨s5, h9, h10⟩ := num_has n3 s4 false h8
    refine ⟨s5, ?_, h10⟩
    unfold Rd.object
    rw [h1]
    simp only
    rw [h3]
    simp only [show (5 : Int).toNat = 5 from rfl, show ¬ (5 : Nat) = 1 by decide, show ¬ (5 : Nat) = 2 by decide, show ¬ (5 : Nat) = 4 by decide, or_true, if_true, if_false]
    rw [h5]
    simp only
    rw [h7]
    simp only
    rw [h9]
    exact congrArg (Prod.mk _) hn
  · refine ⟨s2, ?_, h4⟩
    unfold Rd.object
    rw [h1]
    simp only
    rw [h3]
    simp only [show (6 : Int).toNat = 6 from rfl, show ¬ (6 : Nat) = 1 by decide, show ¬ (6 : Nat) = 2 by decide, show ¬ (6 : Nat) = 4 by decide, show ¬ ((6 : Nat) = 3 ∨ (6 : Nat) = 5) by decide, if_false]
    exact congrArg (Prod.mk _) hn
/-! ### Wide lines -/
/-- A line: its word, its tokens behind as many blanks as one likes. -/
def WideL (l : List UInt8) (p : List UInt8 × List (List UInt8)) : Prop := ∃ ks, l = p.1 ++ wide ks p.2
theorem WideL.word {l : List UInt8} {p : List UInt8 × List (List UInt8)} (h : WideL l p) (hw : Word p.1) (h0 : p.1 ≠ []) : ∃ s, Rd.word ⟨l, false⟩ = (⟨s, false⟩, p.1) ∧ Has s p.2 := by
  obtain ⟨ks, rfl⟩ := h
  exact ⟨_, cut_word hw h0 (tail_wide ks p.2) _ false rfl, ks, tail_drop (tail_wide ks p.2)⟩
theorem head_has {c : WCfg} (h : c.ok) {l : List UInt8} (hl : WideL l (machW, headK c)) : readHead l = (false, ⟨c.cores, c.frames, c.names, [], []⟩) := by
  obtain ⟨s, hw, hs⟩ := hl.word (word_dec machW (by decide)) (by show machW ≠ []; decide)
  obtain ⟨s1, h1, h2⟩ := num_has h.co s false hs
  obtain ⟨s2, h3, h4⟩ := num_has h.fr s1 false h2
  obtain ⟨s3, h5, h6⟩ := num_has h.nm s2 false h4
  unfold readHead
  rw [hw]
  simp only
  rw [h1]
  simp only
  rw [h3]
  simp only
  rw [h5]
  simp [Rd.over, h6.nil]
/-- These lines are those, one for one. -/
inductive WideLs : List (List UInt8) → List (List UInt8 × List (List UInt8)) → Prop
  | nil : WideLs [] []
  | cons {l p ls ps} : WideL l p → WideLs ls ps → WideLs (l :: ls) (p :: ps)
theorem WideLs.split : ∀ {ps qs : List (List UInt8 × List (List UInt8))} {ls : List (List UInt8)}, WideLs ls (ps ++ qs) → ∃ xs ys, ls = xs ++ ys ∧ WideLs xs ps ∧ WideLs ys qs
  | [], qs, ls, h => ⟨[], ls, rfl, .nil, h⟩
  | p :: ps, qs, ls, h => by
    cases h with
    | cons h1 h2 =>
      obtain ⟨xs, ys, rfl, h3, h4⟩ := WideLs.split h2
      exact ⟨_ :: xs, ys, rfl, .cons h1 h3, h4⟩
theorem slots_has : ∀ (l : List (Int × Int)), (∀ s ∈ l, N31 s.1 ∧ N31 s.2) → ∀ (xs r : List (List UInt8)) (c : WCfg), WideLs xs (l.map fun s => (slotW, slotK s)) → c.objs = [] → readLines (xs ++ r) false c = readLines r false { c with slots := c.slots ++ l }
  | [], _, xs, r, c, ha, _ => by cases ha; simp
  | x :: l, h, xs, r, c, ha, ho => by
    cases ha with
    | @cons a _ xs _ h1 h2 =>
      obtain ⟨n1, n2⟩ := h x List.mem_cons_self
      obtain ⟨s, hw, hs⟩ := h1.word (word_dec slotW (by decide)) (by show slotW ≠ []; decide)
      obtain ⟨s2, h3, h4⟩ := num_has n1 s false hs
      obtain ⟨s3, h5, h6⟩ := num_has n2 s2 false h4
      rw [List.cons_append, readLines]
      rw [hw]
      simp only
      rw [if_pos ⟨trivial, ho⟩, h3]
      simp only
      rw [h5]
      simp only [Rd.over, h6.nil]
      have := slots_has l (fun s hs => h s (List.mem_cons_of_mem _ hs)) xs r { c with slots := c.slots ++ [(x.1, x.2)] } h2 ho
      simpa using this
theorem objs_has : ∀ (l : List WObj), (∀ o ∈ l, o.ok) → ∀ (ys : List (List UInt8)) (c : WCfg), WideLs ys (l.map fun o => (kindW.getD o.kind.toNat [], objK o)) → readLines ys false c = (false, { c with objs := c.objs ++ l })
  | [], _, ys, c, hb => by cases hb; simp [readLines]
  | o :: l, h, ys, c, hb => by
    cases hb with
    | @cons a _ ys _ hb1 hb2 =>
      have ho := h o List.mem_cons_self
      have hkd := ho.kind
      obtain ⟨w1, w2, w3, w4⟩ := kind_word o.kind.toNat (by omega) (by omega)
      obtain ⟨s, hw, hs⟩ := hb1.word (word_dec _ w1) w2
      obtain ⟨s', h1, h2⟩ := object_has ho s hs
      rw [readLines]
      rw [hw]
      simp only
      rw [if_neg (fun hh => w3 hh.1), w4, h1]
      have hk0 : decide (o.kind.toNat = 0) = false := decide_eq_false (by omega)
      simp only [Rd.over, h2.nil, hk0]
      have := objs_has l (fun s hs => h s (List.mem_cons_of_mem _ hs)) ys { c with objs := c.objs ++ [o] } hb2
      simpa using this
/-- A text whose lines are a configuration's, with more blanks, tells it. -/
theorem parse_wide {c : WCfg} (h : c.ok) {t : List UInt8} (hl : t.length ≤ 65536) (ht : WideLs (linesOf t) (linesK c)) : parseT t = some c := by
  unfold parseT
  rw [if_neg (by omega)]
  unfold linesK at ht
  generalize linesOf t = ls at ht ⊢
  cases ht with
  | cons h1 h2 =>
    obtain ⟨xs, ys, rfl, h3, h4⟩ := h2.split
    simp only
    rw [head_has h h1]
    simp only
    rw [slots_has _ h.sl xs ys _ h3 rfl, objs_has _ h.ob ys _ h4]
    rfl
end Go.Proofs.YtjjnidbggoaonaaGreatDoor
/- A configuration's text, spread by blanks, empty lines and comments, still tells it. No program. -/
namespace Go.Proofs.YtjjnidbggoaonaaGreatDoor

def gapL (h : Nat) : List UInt8 := if h = 0 then [] else if h = 1 then [10] else if h = 2 then [35, 32, 115, 108, 111, 116, 10] else [32, 32]
/-- Whether a byte lies in braces. -/
def inB (inn : Bool) (c : UInt8) : Bool := (inn || c == 123) && c != 125
/-- A text with more blanks. -/
def spread : List Nat → Bool → List UInt8 → List UInt8
  | _, _, [] => []
  | hs, inn, c :: r => if hs = [] ∨ inB inn c = true ∨ (c ≠ 32 ∧ c ≠ 10) then c :: spread hs (inB inn c) r
    else c :: ((if c = 32 then List.replicate (hs.headD 0) 32 else gapL (hs.headD 0)) ++ spread hs.tail (inB inn c) r)
def PlainT (w : List UInt8) : Prop := ∀ c ∈ w, c ≠ 32 ∧ c ≠ 10 ∧ c ≠ 123 ∧ c ≠ 125
/-- A token. -/
def TokOk (w : List UInt8) : Prop := PlainT w ∨ ∃ i, w = 123 :: (i ++ [125]) ∧ (125 : UInt8) ∉ i
theorem spread_plain : ∀ (w : List UInt8) (hs : List Nat) (r : List UInt8), PlainT w → spread hs false (w ++ r) = w ++ spread hs false r
  | [], hs, r, _ => rfl
  | c :: w, hs, r, h => by
    obtain ⟨h1, h2, h3, h4⟩ := h c List.mem_cons_self
    have e : inB false c = false := by unfold inB; simp [h3]
    rw [List.cons_append, spread, if_pos (.inr (.inr ⟨h1, h2⟩)), e, spread_plain w hs r fun d hd => h d (List.mem_cons_of_mem _ hd)]
    rfl
theorem spread_in : ∀ (i : List UInt8) (hs : List Nat) (r : List UInt8), (125 : UInt8) ∉ i → spread hs true (i ++ 125 :: r) = i ++ 125 :: spread hs false r
  | [], hs, r, _ => by
    rw [List.nil_append, spread, if_pos (.inr (.inr ⟨by decide, by decide⟩))]
    rfl
  | c :: i, hs, r, h => by
    have hc : c ≠ 125 := fun e => h (by rw [e]; exact List.mem_cons_self)
    have e : inB true c = true := by unfold inB; simp [hc]
    rw [List.cons_append, spread, if_pos (.inr (.inl e)), e, spread_in i hs r fun hm => h (List.mem_cons_of_mem _ hm)]
    rfl
theorem spread_tok {w : List UInt8} (h : TokOk w) (hs : List Nat) (r : List UInt8) : spread hs false (w ++ r) = w ++ spread hs false r := by
  rcases h with h | ⟨i, rfl, hi⟩
  · exact spread_plain w hs r h
  · show spread hs false (123 :: ((i ++ [125]) ++ r)) = _
    have e : inB false 123 = true := by decide
    rw [spread, if_pos (.inr (.inl e)), e]
    have e2 : (i ++ [125]) ++ r = i ++ 125 :: r := by simp
    rw [e2, spread_in i hs r hi]
    simp
theorem spread_sp (hs : List Nat) (r : List UInt8) : ∃ k hs', spread hs false (32 :: r) = 32 :: (List.replicate k 32 ++ spread hs' false r) := by
  have e : inB false 32 = false := by decide
  cases hs with
  | nil => exact ⟨0, [], by rw [spread, if_pos (.inl rfl), e]; rfl⟩
  | cons k hs => exact ⟨k, hs, by rw [spread, if_neg (by rw [e]; simp), e]; rfl⟩
theorem spread_nl (hs : List Nat) (r : List UInt8) : ∃ g hs', spread hs false (10 :: r) = 10 :: (gapL g ++ spread hs' false r) := by
  have e : inB false 10 = false := by decide
  cases hs with
  | nil => exact ⟨0, [], by rw [spread, if_pos (.inl rfl), e]; rfl⟩
  | cons k hs => exact ⟨k, hs, by rw [spread, if_neg (by rw [e]; simp), e]; rfl⟩
theorem spread_wide : ∀ (ws : List (List UInt8)) (hs : List Nat) (r : List UInt8), (∀ w ∈ ws, TokOk w) → ∃ ks hs', spread hs false (wide [] ws ++ r) = wide ks ws ++ spread hs' false r
  | [], hs, r, _ => ⟨[], hs, rfl⟩
  | w :: ws, hs, r, h => by
    have e : wide [] (w :: ws) ++ r = 32 :: (w ++ (wide [] ws ++ r)) := by simp [wide]
    obtain ⟨k, hs1, e1⟩ := spread_sp hs (w ++ (wide [] ws ++ r))
    obtain ⟨ks, hs2, e2⟩ := spread_wide ws hs1 r fun x hx => h x (List.mem_cons_of_mem _ hx)
    refine ⟨k :: ks, hs2, ?_⟩
    rw [e, e1, spread_tok (h w List.mem_cons_self), e2]
    simp [wide]
/-! ### Lines of a text -/
def keepL (l : List UInt8) : Bool := l.head? != none && l.head? != some 35
theorem linesOf_cons {l : List UInt8} (h : (10 : UInt8) ∉ l) (r : List UInt8) : linesOf (l ++ 10 :: r) = (if keepL (trimS l) = true then [trimS l] else []) ++ linesOf r := by
  unfold linesOf
  rw [partsAt_some _ h, List.map_cons, List.filter_cons]
  show (if keepL (trimS l) = true then _ else _) = _
  split <;> simp
theorem trimL_mem {l : List UInt8} : (∀ c ∈ l, c = 32) ∨ ∃ k c r, c ≠ 32 ∧ l = List.replicate k 32 ++ c :: r := by
  induction l with
  | nil => left; intro c hc; cases hc
  | cons x t ih =>
    by_cases hx : x = 32
    · subst hx
      rcases ih with h | ⟨k, c, r, h, e⟩
      · left
        intro c hc
        rcases List.mem_cons.1 hc with h' | h'
        · exact h'
        · exact h c h'
      · right
        exact ⟨k + 1, c, r, h, by rw [e]; rfl⟩
    · right; exact ⟨0, x, t, hx, rfl⟩
theorem trimL_all {l : List UInt8} (h : ∀ c ∈ l, c = 32) : trimL l = [] := by
  unfold trimL
  induction l with
  | nil => rfl
  | cons c t ih =>
    rw [List.dropWhile_cons, if_pos (by rw [h c List.mem_cons_self]; rfl)]
    exact ih fun d hd => h d (List.mem_cons_of_mem _ hd)
theorem trimL_at {k : Nat} {c : UInt8} {r : List UInt8} (h : c ≠ 32) (t : List UInt8) : trimL ((List.replicate k 32 ++ c :: r) ++ t) = c :: (r ++ t) := by
  rw [List.append_assoc, trimL_rep, List.cons_append, trimL_cons _ h]
theorem trimS_sp (l : List UInt8) : trimS (32 :: l) = trimS l := by
  unfold trimS
  rw [List.reverse_cons]
  rcases trimL_mem (l := l.reverse) with h | ⟨k, c, r, h, e⟩
  · rw [trimL_all h, trimL_all (l := l.reverse ++ [32]) fun d hd => by
      rcases List.mem_append.1 hd with hd | hd
      · exact h d hd
      · simpa using hd]
  · rw [e, trimL_at h]
    have e2 := trimL_at (k := k) (r := r) h []
    rw [List.append_nil, List.append_nil] at e2
    rw [e2, List.reverse_cons, List.reverse_append]
    simp [trimL_sp]
theorem linesOf_sp (x : List UInt8) : linesOf (32 :: x) = linesOf x := by
  unfold linesOf
  have e : ∀ a b, partsAt 10 x = a :: b → partsAt 10 (32 :: x) = (32 :: a) :: b := fun a b h => by
    conv => lhs; unfold partsAt
    rw [if_neg (by decide), h]
  rcases hp : partsAt 10 x with _ | ⟨a, b⟩
  · exact absurd hp (by
      cases x with
      | nil => simp [partsAt]
      | cons c r => unfold partsAt; split
                    · simp
                    · split <;> simp)
  · rw [e a b hp, List.map_cons, List.map_cons, trimS_sp]
theorem linesOf_gap (g : Nat) (x : List UInt8) : linesOf (gapL g ++ x) = linesOf x := by
  unfold gapL
  split
  · rfl
  · split
    · have := linesOf_cons (l := []) (by simp) x
      rw [List.nil_append] at this
      rw [List.singleton_append, this]
      rfl
    · split
      · have := linesOf_cons (l := [35, 32, 115, 108, 111, 116]) (by decide) x
        show linesOf ([35, 32, 115, 108, 111, 116] ++ 10 :: x) = _
        rw [this, if_neg (by decide)]
        rfl
      · show linesOf (32 :: (32 :: x)) = _
        rw [linesOf_sp, linesOf_sp]
theorem linesOf_nil : linesOf [] = [] := rfl
/-- A line as it is printed: its word and its tokens. -/
structure LineK (p : List UInt8 × List (List UInt8)) : Prop where
  w : EndOk p.1
  wp : PlainT p.1
  hd : ∀ c, p.1.head? = some c → c ≠ 32 ∧ c ≠ 35
  ts : ∀ t ∈ p.2, TokOk t ∧ EndOk t
theorem end_wide : ∀ (ws : List (List UInt8)) (ks : List Nat), (∀ t ∈ ws, EndOk t) → wide ks ws = [] ∨ EndOk (wide ks ws)
  | [], ks, _ => .inl (by cases ks <;> rfl)
  | w :: ws, ks, h => by
    right
    have hw := h w List.mem_cons_self
    have ih : ∀ ks, wide ks ws = [] ∨ EndOk (wide ks ws) := fun ks => end_wide ws ks fun t ht => h t (List.mem_cons_of_mem _ ht)
    cases ks with
    | nil => exact (hw.append (ih [])).cons 32 (by decide)
    | cons k ks =>
      refine EndOk.cons ?_ 32 (by decide)
      have hx := hw.append (ih ks)
      induction k with
      | zero => exact hx
      | succ k ihk => rw [List.replicate_succ, List.cons_append]; exact ihk.cons 32 (by decide)
theorem LineK.wide {p : List UInt8 × List (List UInt8)} (h : LineK p) (ks : List Nat) : LineOkW (p.1 ++ wide ks p.2) := by
  have hx := h.w.append (end_wide p.2 ks fun t ht => (h.ts t ht).2)
  refine ⟨hx, fun c hc => h.hd c ?_⟩
  obtain ⟨x, r, e⟩ : ∃ x r, p.1 = x :: r := by
    cases e : p.1 with
    | nil => exact absurd e h.w.ne
    | cons x r => exact ⟨x, r, rfl⟩
  rw [e] at hc ⊢
  simpa using hc
theorem lines_spread : ∀ (ps : List (List UInt8 × List (List UInt8))) (hs : List Nat), (∀ p ∈ ps, LineK p) → WideLs (linesOf (spread hs false (ps.flatMap fun p => (p.1 ++ wide [] p.2) ++ [10]))) ps
  | [], hs, _ => by
    have : spread hs false [] = [] := by unfold spread; rfl
    rw [List.flatMap_nil, this, linesOf_nil]; exact .nil
  | p :: ps, hs, h => by
    have hp := h p List.mem_cons_self
    have e : (p :: ps).flatMap (fun p => (p.1 ++ wide [] p.2) ++ [10]) = p.1 ++ (wide [] p.2 ++ 10 :: ps.flatMap fun p => (p.1 ++ wide [] p.2) ++ [10]) := by simp
    obtain ⟨ks, hs1, e1⟩ := spread_wide p.2 hs (10 :: ps.flatMap fun p => (p.1 ++ wide [] p.2) ++ [10]) fun w hw => (hp.ts w hw).1
    obtain ⟨g, hs2, e2⟩ := spread_nl hs1 (ps.flatMap fun p => (p.1 ++ wide [] p.2) ++ [10])
    have ih := lines_spread ps hs2 fun q hq => h q (List.mem_cons_of_mem _ hq)
    rw [e, spread_plain _ _ _ hp.wp, e1, e2, ← List.append_assoc, linesOf_cons (hp.wide ks).e.nl, linesOf_gap, (hp.wide ks).trim, if_pos]
    · exact .cons ⟨ks, rfl⟩ ih
    · have hl := hp.wide ks
      obtain ⟨x, r, e⟩ : ∃ x r, p.1 ++ Go.Proofs.YtjjnidbggoaonaaGreatDoor.wide ks p.2 = x :: r := by
        cases e : p.1 ++ Go.Proofs.YtjjnidbggoaonaaGreatDoor.wide ks p.2 with
        | nil => exact absurd e hl.e.ne
        | cons x r => exact ⟨x, r, rfl⟩
      rw [e] at hl ⊢
      have := (hl.h x rfl).2
      unfold keepL
      simp [this]
/-! ### The lines of a configuration -/
theorem EndOk.tail {c : UInt8} {l : List UInt8} (h : EndOk (c :: l)) (h0 : l ≠ []) : EndOk l := by
  refine ⟨h0, fun d hd => h.last d ?_, fun hm => h.nl (List.mem_cons_of_mem _ hm)⟩
  have : (c :: l).getLast? = l.getLast? := getLast_app (l := [c]) h0
  rw [this]; exact hd
theorem itoa_plain (x : Int) : PlainT (Lib.itoa x) := fun c hc => by
  have := itoa_char x c hc
  refine ⟨?_, ?_, ?_, ?_⟩
  all_goals (intro e; rw [e] at this; revert this; decide)
theorem hexN_plain : ∀ d, d < 16 → hexN d ≠ 32 ∧ hexN d ≠ 10 ∧ hexN d ≠ 123 ∧ hexN d ≠ 125 := by decide
theorem hex_plain (b : List UInt8) : PlainT (hexK b) := by
  unfold hexK
  split
  · intro c hc; rw [List.mem_singleton] at hc; subst hc; decide
  · intro c hc
    obtain ⟨x, _, hx⟩ := List.mem_flatMap.1 hc
    have hlt := UInt8.toNat_lt x
    unfold hex2 at hx
    simp only [List.mem_cons, List.not_mem_nil, or_false] at hx
    rcases hx with rfl | rfl
    · exact hexN_plain _ (by omega)
    · exact hexN_plain _ (Nat.mod_lt _ (by omega))
theorem map_plain (m : WMap) : PlainT (mapK m) := by
  have st : ∀ {l : List UInt8}, PlainT l → ∀ x : Int, PlainT (Lib.itoa x ++ 44 :: l) := fun h x c hc => by
    rcases List.mem_append.1 hc with hc | hc
    · exact itoa_plain x c hc
    · rcases List.mem_cons.1 hc with rfl | hc
      · decide
      · exact h c hc
  have hl : PlainT (if m.wr then [119] else [114] : List UInt8) := by
    cases m.wr
    · intro c hc; simp at hc; subst hc; decide
    · intro c hc; simp at hc; subst hc; decide
  exact st (st (st (st hl _) _) _) _
theorem lab_tok {l : Lab} (h : l.right = true) : TokOk (labK l) ∧ EndOk (labK l) := by
  obtain ⟨⟨d1, d4⟩, hps, hp⟩ := Lab.right_spec h
  refine ⟨.inr ⟨levT l.d ++ l.ps.flatMap pairT, rfl, fun hm => ?_⟩, (by have := end_lab h; rw [labK_T] at this; exact this.tail (by simp [labK]))⟩
  rcases List.mem_append.1 hm with hm | hm
  · exact levT_nmem d4 ⟨by decide, by decide⟩ hm
  · obtain ⟨p, hpm, hm⟩ := List.mem_flatMap.1 hm
    unfold pairT at hm
    rcases List.mem_cons.1 hm with h | hm
    · exact absurd h (by decide)
    · rcases List.mem_append.1 hm with hm | hm
      · exact itoa_nmem _ ⟨by decide, by decide⟩ hm
      · rcases List.mem_cons.1 hm with h | hm
        · exact absurd h (by decide)
        · exact levT_nmem (hp p hpm).2 ⟨by decide, by decide⟩ hm
theorem itoa_tok (x : Int) : TokOk (Lib.itoa x) ∧ EndOk (Lib.itoa x) := ⟨.inl (itoa_plain x), end_itoa x⟩
theorem hex_tok (b : List UInt8) : TokOk (hexK b) ∧ EndOk (hexK b) := by
  refine ⟨.inl (hex_plain b), ?_⟩
  have := end_hex b
  rw [hexK_T] at this
  refine this.tail ?_
  unfold hexK
  split
  · simp
  · rename_i hb
    cases b with
    | nil => exact absurd rfl hb
    | cons c r => rw [List.flatMap_cons]; simp [hex2]
theorem map_tok (m : WMap) : TokOk (mapK m) ∧ EndOk (mapK m) := ⟨.inl (map_plain m), by have := end_map m; rw [mapK_T] at this; exact this.tail (by simp [mapK])⟩
theorem kind_plain : ∀ k : Nat, 1 ≤ k → k ≤ 6 → PlainT (kindW.getD k []) := by
  intro k h0 h1
  have h : ∀ k : Nat, k < 7 → ∀ c ∈ kindW.getD k [], c ≠ 32 ∧ c ≠ 10 ∧ c ≠ 123 ∧ c ≠ 125 := by decide
  exact h k (by omega)
theorem cfg_lines {c : WCfg} (h : c.ok) : ∀ p ∈ linesK c, LineK p := by
  intro p hp
  unfold linesK at hp
  have n3 : ∀ x y z : Int, ∀ t ∈ [Lib.itoa x, Lib.itoa y, Lib.itoa z], TokOk t ∧ EndOk t := fun x y z t ht => by
    simp only [List.mem_cons, List.not_mem_nil, or_false] at ht
    rcases ht with rfl | rfl | rfl <;> exact itoa_tok _
  rcases List.mem_cons.1 hp with rfl | hp
  · refine ⟨EndOk.word (word_dec machW (by decide)) (by show machW ≠ []; decide) (by show ¬ (10 : UInt8) ∈ machW; decide), ?_, (fun c hc => by simp [machW] at hc; subst hc; decide), n3 _ _ _⟩
    have : ∀ c ∈ machW, c ≠ 32 ∧ c ≠ 10 ∧ c ≠ 123 ∧ c ≠ 125 := by decide
    exact this
  · rcases List.mem_append.1 hp with hp | hp
    · obtain ⟨s, _, rfl⟩ := List.mem_map.1 hp
      refine ⟨EndOk.word (word_dec slotW (by decide)) (by show slotW ≠ []; decide) (by show ¬ (10 : UInt8) ∈ slotW; decide), ?_, (fun c hc => by simp [slotW] at hc; subst hc; decide), fun t ht => ?_⟩
      · have : ∀ c ∈ slotW, c ≠ 32 ∧ c ≠ 10 ∧ c ≠ 123 ∧ c ≠ 125 := by decide
        exact this
      · exact n3 s.1 s.2 0 t (by simp only [slotK, List.mem_cons, List.not_mem_nil, or_false] at ht ⊢; rcases ht with h | h <;> simp [h])
    · obtain ⟨o, ho, rfl⟩ := List.mem_map.1 hp
      have hk := h.ob o ho
      have hkd := hk.kind
      obtain ⟨e1, e2⟩ := kind_end o.kind.toNat (by omega) (by omega)
      refine ⟨e1, kind_plain _ (by omega) (by omega), e2, fun t ht => ?_⟩
      unfold objK at ht
      rcases List.mem_cons.1 ht with rfl | ht
      · exact itoa_tok _
      · rcases List.mem_cons.1 ht with rfl | ht
        · exact lab_tok hk.lab
        · unfold partK at ht
          split at ht
          · exact n3 o.pages o.names 0 t (by simp only [List.mem_cons, List.not_mem_nil, or_false] at ht ⊢; rcases ht with h | h <;> simp [h])
          · split at ht
            · simp only [List.mem_cons, List.not_mem_nil, or_false] at ht
              rcases ht with rfl | rfl
              · exact itoa_tok _
              · exact hex_tok _
            · split at ht
              · obtain ⟨m, _, rfl⟩ := List.mem_map.1 ht
                exact map_tok m
              · split at ht
                · rename_i hkk
                  simp only [List.mem_cons, List.not_mem_nil, or_false] at ht
                  rcases ht with rfl | rfl | rfl
                  · exact lab_tok (hk.k35 hkk).1
                  · exact itoa_tok _
                  · exact itoa_tok _
                · cases ht
theorem printK (c : WCfg) : printT c = (linesK c).flatMap fun p => (p.1 ++ wide [] p.2) ++ [10] := by
  unfold printT
  rw [linesK_T, List.flatMap_map]
/-- A configuration's text, spread, tells it. -/
theorem parse_spread {c : WCfg} (h : c.ok) (hs : List Nat) (hl : (spread hs false (printT c)).length ≤ 65536) : parseT (spread hs false (printT c)) = some c := by
  refine parse_wide h hl ?_
  rw [printK]
  exact lines_spread _ hs (cfg_lines h)
end Go.Proofs.YtjjnidbggoaonaaGreatDoor
/- What is read of a text is printed as a text no longer than it, and may be a configuration's. No program. -/
namespace Go.Proofs.YtjjnidbggoaonaaGreatDoor

theorem cutAt_spec (c : UInt8) : ∀ (l : List UInt8) (a b : List UInt8), cutAt c l = some (a, b) → l = a ++ c :: b
  | [], a, b, h => by cases h
  | x :: r, a, b, h => by
    unfold cutAt at h
    split at h
    · rename_i hx
      cases h
      rw [beq_iff_eq] at hx
      rw [hx]; rfl
    · cases e : cutAt c r with
      | none => rw [e] at h; cases h
      | some p =>
        rw [e] at h
        obtain ⟨a', b'⟩ := p
        cases h
        have := cutAt_spec c r a' b' e
        rw [this]; rfl
theorem trimL_le (l : List UInt8) : (trimL l).length ≤ l.length := by
  unfold trimL
  exact List.Sublist.length_le (List.dropWhile_sublist _)
/-- What is left of a line, with the blank ahead of it. -/
def pot (s : List UInt8) : Nat := if trimL s = [] then 0 else (trimL s).length + 1
theorem pot_le (s : List UInt8) : pot s ≤ s.length + 1 := by
  have := trimL_le s
  unfold pot; split <;> omega
theorem pot_tail {s : List UInt8} (h : s = [] ∨ s.head? = some 32) : pot s ≤ s.length := by
  cases s with
  | nil => exact Nat.le_refl _
  | cons c r =>
    rcases h with h | h
    · cases h
    · have hc : c = 32 := by simpa using h
      subst hc
      have := trimL_le r
      unfold pot
      rw [trimL_sp]
      split
      · omega
      · simp only [List.length_cons]; omega
theorem word_bad (r : Rd) (h : r.bad = true) : r.word.1.bad = true := by
  unfold Rd.word
  split <;> simp [h]
theorem word_pot {r : Rd} (h : r.word.1.bad = false) : r.bad = false ∧ r.word.2 ≠ [] ∧ r.word.2.length + 1 + pot r.word.1.s ≤ pot r.s := by
  unfold Rd.word at h ⊢
  cases e : cutAt 32 (trimL r.s) with
  | none =>
    simp only [e, Bool.or_eq_false_iff, decide_eq_false_iff_not] at h ⊢
    refine ⟨h.1, h.2, ?_⟩
    have : pot ([] : List UInt8) = 0 := rfl
    rw [this]
    unfold pot
    rw [if_neg h.2]
    omega
  | some p =>
    obtain ⟨w, rest⟩ := p
    simp only [e, Bool.or_eq_false_iff, decide_eq_false_iff_not] at h ⊢
    refine ⟨h.1, h.2, ?_⟩
    have hs := cutAt_spec _ _ _ _ e
    have hp := pot_le rest
    have h0 : trimL r.s ≠ [] := by rw [hs]; simp
    have hl : (trimL r.s).length = w.length + (rest.length + 1) := by rw [hs]; simp
    have : pot r.s = (trimL r.s).length + 1 := by unfold pot; rw [if_neg h0]
    rw [this, hl]
    omega
theorem numW_itoa' {s : List UInt8} {k : Nat} (h : numW s = some k) : Lib.itoa (k : Int) = s ∧ k < 2147483648 := by
  unfold numW at h
  split at h
  · rename_i hc
    simp only [Option.some.injEq] at h
    subst h
    rw [itoa_pos (by omega)]
    exact ⟨by simpa using hc.2.2.2, hc.2.2.1⟩
  · cases h
theorem num_pot {r : Rd} (h : r.num.1.bad = false) : r.bad = false ∧ N31 r.num.2 ∧ (Lib.itoa r.num.2).length + 1 + pot r.num.1.s ≤ pot r.s := by
  unfold Rd.num at h ⊢
  cases e : numW r.word.2 with
  | none => rw [e] at h; cases h
  | some n =>
    rw [e] at h
    obtain ⟨h1, h2, h3⟩ := word_pot h
    obtain ⟨h4, h5⟩ := numW_itoa' e
    refine ⟨h1, ⟨by show (0 : Int) ≤ (n : Nat); omega, by show ((n : Nat) : Int) < _; omega⟩, ?_⟩
    show (Lib.itoa (n : Int)).length + 1 + _ ≤ _
    rw [h4]
    exact h3
/-! ### Labels -/
theorem levOf_len {s : List UInt8} {k : Nat} (h : levOf s = some k) : s.length = 1 ∧ k ≤ 4 := by
  unfold levOf at h
  split at h
  · refine ⟨rfl, ?_⟩
    repeat' split at h
    all_goals first | (cases h; omega) | (cases h)
  · cases h
theorem levT_len {d : Nat} : (levT d).length = 1 := rfl
/-- The length of words behind blanks. -/
def sumL (ws : List (List UInt8)) : Nat := (ws.map fun w => w.length + 1).sum
theorem sumL_cons (w : List UInt8) (ws : List (List UInt8)) : sumL (w :: ws) = w.length + 1 + sumL ws := rfl
theorem parts_sum (c : UInt8) : ∀ l : List UInt8, sumL (partsAt c l) = l.length + 1
  | [] => rfl
  | x :: r => by
    have ih := parts_sum c r
    unfold partsAt
    split
    · rw [sumL_cons, ih]; simp; omega
    · split
      · rename_i e; rw [e] at ih; simp [sumL] at ih ⊢
      · rename_i p ps e
        rw [e, sumL_cons] at ih
        rw [sumL_cons]
        simp only [List.length_cons] at ih ⊢
        omega
theorem pairsOf_len : ∀ (ws : List (List UInt8)) (ps : List (Nat × Nat)), pairsOf ws = some ps → (ps.flatMap pairT).length = sumL ws
  | [], ps, h => by cases h; rfl
  | s :: r, ps, h => by
    unfold pairsOf at h
    cases e : cutAt 58 s with
    | none => rw [e] at h; cases h
    | some p =>
      obtain ⟨a, b⟩ := p
      rw [e] at h
      simp only at h
      cases e1 : numW a with
      | none => rw [e1] at h; cases h
      | some c =>
        cases e2 : levOf b with
        | none => rw [e1, e2] at h; cases h
        | some l =>
          rw [e1, e2] at h
          simp only at h
          split at h
          · cases e3 : pairsOf r with
            | none => rw [e3] at h; cases h
            | some qs =>
              rw [e3] at h
              cases h
              have ih := pairsOf_len r qs e3
              have hs := cutAt_spec _ _ _ _ e
              have h1 := (numW_itoa' e1).1
              have h2 := (levOf_len e2).1
              rw [List.flatMap_cons, List.length_append, ih, sumL_cons]
              show (pairT (c, l)).length + _ = _
              unfold pairT
              simp only
              rw [h1, hs]
              simp only [List.length_cons, List.length_append, levT_len, h2]
              try omega
          · cases h
theorem labOf_len {ws : List (List UInt8)} {l : Lab} (h : labOf ws = some l) : (labK l).length = sumL ws + 1 ∧ l.right = true := by
  cases ws with
  | nil => cases h
  | cons d r =>
    unfold labOf at h
    simp only at h
    cases e1 : levOf d with
    | none => rw [e1] at h; cases h
    | some dd =>
      cases e2 : pairsOf r with
      | none => rw [e1, e2] at h; cases h
      | some ps =>
        rw [e1, e2] at h
        simp only at h
        split at h
        · rename_i hr
          cases h
          refine ⟨?_, hr⟩
          have h1 := (levOf_len e1).1
          have h2 := pairsOf_len r ps e2
          unfold labK
          rw [sumL_cons, h1]
          simp only [List.length_cons, List.length_append, levT_len, h2, List.length_nil]
          omega
        · cases h
theorem label_pot {r : Rd} (h : r.label.1.bad = false) : r.bad = false ∧ r.label.2.right = true ∧ (labK r.label.2).length + 1 + pot r.label.1.s ≤ pot r.s := by
  unfold Rd.label at h ⊢
  cases e : cutAt 125 (trimL r.s) with
  | none => rw [e] at h; cases h
  | some p =>
    obtain ⟨inn, rest⟩ := p
    rw [e] at h
    simp only at h ⊢
    split at h
    · rename_i i
      split at h
      · rename_i hr
        cases e2 : labOf (partsAt 32 i) with
        | none => rw [e2] at h; cases h
        | some l =>
          rw [e2] at h
          simp only at h ⊢
          rw [if_pos hr]
          obtain ⟨h1, h2⟩ := labOf_len e2
          refine ⟨h, h2, ?_⟩
          have hs := cutAt_spec _ _ _ _ e
          have hp := pot_tail hr
          have h0 : trimL r.s ≠ [] := by rw [hs]; simp
          have : pot r.s = (trimL r.s).length + 1 := by unfold pot; rw [if_neg h0]
          rw [this, hs]
          simp only [h1, parts_sum, List.length_append, List.length_cons]
          omega
      · cases h
    · cases h
/-! ### Bytes, maps -/
theorem hexOf_len : ∀ (s b : List UInt8), hexOf s = some b → s.length = 2 * b.length
  | [], b, h => by cases h; rfl
  | [_], b, h => by cases h
  | x :: y :: r, b, h => by
    unfold hexOf at h
    split at h
    · rename_i h1 h2 h3
      cases h
      have := hexOf_len r _ h3
      simp only [List.length_cons]
      omega
    · cases h
theorem hexK_len (b : List UInt8) (h : b ≠ []) : (hexK b).length = 2 * b.length := by
  unfold hexK
  rw [if_neg h]
  clear h
  induction b with
  | nil => rfl
  | cons c r ih => rw [List.flatMap_cons, List.length_append, ih]; simp [hex2]; omega
theorem hex_pot {r : Rd} (h : r.hex.1.bad = false) : r.bad = false ∧ (hexK r.hex.2).length + 1 + pot r.hex.1.s ≤ pot r.s := by
  unfold Rd.hex at h ⊢
  split at h
  · rename_i hw
    rw [if_pos hw]
    obtain ⟨h1, h2, h3⟩ := word_pot h
    rw [hw] at h3
    exact ⟨h1, h3⟩
  · rename_i hw
    rw [if_neg hw]
    cases e : hexOf r.word.2 with
    | none => rw [e] at h; cases h
    | some b =>
      rw [e] at h
      simp only at h ⊢
      obtain ⟨h1, h2, h3⟩ := word_pot h
      have hl := hexOf_len _ _ e
      have hb : b ≠ [] := fun e2 => by
        rw [e2] at hl
        exact h2 (List.eq_nil_of_length_eq_zero (by simpa using hl))
      refine ⟨h1, ?_⟩
      rw [hexK_len b hb, ← hl]
      exact h3
theorem mapOf_ok {w : List UInt8} {m : WMap} (h : mapOf w = some m) : m.ok ∧ (mapK m).length = w.length := by
  unfold mapOf at h
  split at h
  · rename_i a b c d e hp
    have hs := parts_sum 44 w
    rw [hp] at hs
    simp only [sumL, List.map_cons, List.map_nil, List.sum_cons, List.sum_nil] at hs
    split at h
    · rename_i a' b' c' d' ha hb hc hd
      obtain ⟨ha1, ha2⟩ := numW_itoa' ha
      obtain ⟨hb1, hb2⟩ := numW_itoa' hb
      obtain ⟨hc1, hc2⟩ := numW_itoa' hc
      obtain ⟨hd1, hd2⟩ := numW_itoa' hd
      have ok : ∀ wr, WMap.ok ⟨(a' : Nat), (b' : Nat), (c' : Nat), (d' : Nat), wr⟩ := fun wr => ⟨⟨by show (0 : Int) ≤ (a' : Nat); omega, by show ((a' : Nat) : Int) < _; omega⟩, ⟨by show (0 : Int) ≤ (b' : Nat); omega, by show ((b' : Nat) : Int) < _; omega⟩, ⟨by show (0 : Int) ≤ (c' : Nat); omega, by show ((c' : Nat) : Int) < _; omega⟩, ⟨by show (0 : Int) ≤ (d' : Nat); omega, by show ((d' : Nat) : Int) < _; omega⟩⟩
      have ln : ∀ wr, (mapK ⟨(a' : Nat), (b' : Nat), (c' : Nat), (d' : Nat), wr⟩).length = a.length + (b.length + (c.length + (d.length + 5))) := fun wr => by
        unfold mapK
        simp only [ha1, hb1, hc1, hd1]
        cases wr <;> simp <;> omega
      split at h
      · rename_i he; cases h; subst he
        exact ⟨ok _, by rw [ln]; simp at hs; omega⟩
      · split at h
        · rename_i he; cases h; subst he
          exact ⟨ok _, by rw [ln]; simp at hs; omega⟩
        · cases h
    · cases h
  · cases h
theorem one_pot {r : Rd} (h : r.one.1.bad = false) : r.bad = false ∧ r.one.2.ok ∧ (mapK r.one.2).length + 1 + pot r.one.1.s ≤ pot r.s := by
  unfold Rd.one at h ⊢
  cases e : mapOf r.word.2 with
  | none => rw [e] at h; cases h
  | some m =>
    rw [e] at h
    simp only at h ⊢
    obtain ⟨h1, h2, h3⟩ := word_pot h
    obtain ⟨h4, h5⟩ := mapOf_ok e
    refine ⟨h1, h4, ?_⟩
    rw [h5]
    exact h3
theorem maps_pot : ∀ (g : Nat) (r : Rd), (Rd.maps g r).1.bad = false → r.bad = false ∧ (∀ m ∈ (Rd.maps g r).2, m.ok) ∧ sumL ((Rd.maps g r).2.map mapK) + pot (Rd.maps g r).1.s ≤ pot r.s
  | 0, r, h => ⟨h, (by intro m hm; cases hm), by show 0 + pot r.s ≤ _; omega⟩
  | g + 1, r, h => by
    unfold Rd.maps at h ⊢
    split at h
    · rename_i hc
      rw [if_pos hc]
      exact ⟨h, (by intro m hm; cases hm), by show 0 + pot r.s ≤ _; omega⟩
    · rename_i hc
      rw [if_neg hc]
      simp only at h ⊢
      obtain ⟨h1, h2, h3⟩ := maps_pot g r.one.1 h
      obtain ⟨h4, h5, h6⟩ := one_pot h1
      refine ⟨h4, fun m hm => ?_, ?_⟩
      · rcases List.mem_cons.1 hm with rfl | hm
        · exact h5
        · exact h2 m hm
      · rw [List.map_cons, sumL_cons]
        omega
/-! ### Objects -/
theorem wide_sum (ws : List (List UInt8)) : (wide [] ws).length = sumL ws := by
  induction ws with
  | nil => rfl
  | cons w ws ih => rw [sumL_cons, ← ih]; simp only [wide, List.length_cons, List.length_append]; omega
theorem object_pot {r : Rd} {k : Nat} (hk : 1 ≤ k ∧ k ≤ 6) (h : (r.object k).1.bad = false) : r.bad = false ∧ (r.object k).2.ok ∧ (r.object k).2.kind = (k : Int) ∧ sumL (objK (r.object k).2) + pot (r.object k).1.s ≤ pot r.s := by
  have e0 : sumL ([] : List (List UInt8)) = 0 := rfl
  obtain rfl | rfl | rfl | rfl | rfl | rfl : k = 1 ∨ k = 2 ∨ k = 3 ∨ k = 4 ∨ k = 5 ∨ k = 6 := by omega
  · unfold Rd.object at h ⊢
    simp only [if_true] at h ⊢
    obtain ⟨a1, a2, a3⟩ := num_pot h
    obtain ⟨b1, b2, b3⟩ := num_pot a1
    obtain ⟨c1, c2, c3⟩ := label_pot b1
    obtain ⟨d1, d2, d3⟩ := num_pot c1
    refine ⟨d1, ⟨⟨by show (1 : Int) ≤ 1; omega, by show (1 : Int) ≤ 6; omega⟩, d2, c2, rfl, fun _ => ⟨b2, a2⟩, (fun e => absurd (show (1 : Int) = 2 from e) (by decide)), (fun e => absurd (show (1 : Int) = 4 from e) (by decide)), (fun e => absurd (show (1 : Int) = 3 ∨ (1 : Int) = 5 from e) (by decide))⟩, rfl, ?_⟩
    show sumL [Lib.itoa _, labK _, Lib.itoa _, Lib.itoa _] + _ ≤ _
    simp only [sumL_cons, e0]
    omega
  · unfold Rd.object at h ⊢
    simp only [show ¬ (2 : Nat) = 1 by decide, if_true, if_false] at h ⊢
    obtain ⟨a1, a3⟩ := hex_pot h
    obtain ⟨b1, b2, b3⟩ := num_pot a1
    obtain ⟨c1, c2, c3⟩ := label_pot b1
    obtain ⟨d1, d2, d3⟩ := num_pot c1
    refine ⟨d1, ⟨⟨by show (1 : Int) ≤ 2; omega, by show (2 : Int) ≤ 6; omega⟩, d2, c2, rfl, (fun e => absurd (show (2 : Int) = 1 from e) (by decide)), fun _ => b2, (fun e => absurd (show (2 : Int) = 4 from e) (by decide)), (fun e => absurd (show (2 : Int) = 3 ∨ (2 : Int) = 5 from e) (by decide))⟩, rfl, ?_⟩
    show sumL [Lib.itoa _, labK _, Lib.itoa _, hexK _] + _ ≤ _
    simp only [sumL_cons, e0]
    omega
  · unfold Rd.object at h ⊢
    simp only [show ¬ (3 : Nat) = 1 by decide, show ¬ (3 : Nat) = 2 by decide, show ¬ (3 : Nat) = 4 by decide, true_or, if_true, if_false] at h ⊢
    obtain ⟨z1, z2, z3⟩ := num_pot h
    obtain ⟨a1, a2, a3⟩ := num_pot z1
    obtain ⟨b1, b2, b3⟩ := label_pot a1
    obtain ⟨c1, c2, c3⟩ := label_pot b1
    obtain ⟨d1, d2, d3⟩ := num_pot c1
    refine ⟨d1, ⟨⟨by show (1 : Int) ≤ 3; omega, by show (3 : Int) ≤ 6; omega⟩, d2, c2, rfl, (fun e => absurd (show (3 : Int) = 1 from e) (by decide)), (fun e => absurd (show (3 : Int) = 2 from e) (by decide)), (fun e => absurd (show (3 : Int) = 4 from e) (by decide)), fun _ => ⟨b2, a2, z2⟩⟩, rfl, ?_⟩
    show sumL [Lib.itoa _, labK _, labK _, Lib.itoa _, Lib.itoa _] + _ ≤ _
    simp only [sumL_cons, e0]
    omega
  · unfold Rd.object at h ⊢
    simp only [show ¬ (4 : Nat) = 1 by decide, show ¬ (4 : Nat) = 2 by decide, if_true, if_false] at h ⊢
    obtain ⟨a1, a2, a3⟩ := maps_pot _ _ h
    obtain ⟨c1, c2, c3⟩ := label_pot a1
    obtain ⟨d1, d2, d3⟩ := num_pot c1
    refine ⟨d1, ⟨⟨by show (1 : Int) ≤ 4; omega, by show (4 : Int) ≤ 6; omega⟩, d2, c2, rfl, (fun e => absurd (show (4 : Int) = 1 from e) (by decide)), (fun e => absurd (show (4 : Int) = 2 from e) (by decide)), fun _ => a2, (fun e => absurd (show (4 : Int) = 3 ∨ (4 : Int) = 5 from e) (by decide))⟩, rfl, ?_⟩
    show sumL (Lib.itoa _ :: labK _ :: List.map mapK _) + _ ≤ _
    simp only [sumL_cons]
    omega
  · unfold Rd.object at h ⊢
    simp only [show ¬ (5 : Nat) = 1 by decide, show ¬ (5 : Nat) = 2 by decide, show ¬ (5 : Nat) = 4 by decide, or_true, if_true, if_false] at h ⊢
    obtain ⟨z1, z2, z3⟩ := num_pot h
    obtain ⟨a1, a2, a3⟩ := num_pot z1
    obtain ⟨b1, b2, b3⟩ := label_pot a1
    obtain ⟨c1, c2, c3⟩ := label_pot b1
    obtain ⟨d1, d2, d3⟩ := num_pot c1
    refine ⟨d1, ⟨⟨by show (1 : Int) ≤ 5; omega, by show (5 : Int) ≤ 6; omega⟩, d2, c2, rfl, (fun e => absurd (show (5 : Int) = 1 from e) (by decide)), (fun e => absurd (show (5 : Int) = 2 from e) (by decide)), (fun e => absurd (show (5 : Int) = 4 from e) (by decide)), fun _ => ⟨b2, a2, z2⟩⟩, rfl, ?_⟩
    show sumL [Lib.itoa _, labK _, labK _, Lib.itoa _, Lib.itoa _] + _ ≤ _
    simp only [sumL_cons, e0]
    omega
  · unfold Rd.object at h ⊢
    simp only [show ¬ (6 : Nat) = 1 by decide, show ¬ (6 : Nat) = 2 by decide, show ¬ (6 : Nat) = 4 by decide, show ¬ ((6 : Nat) = 3 ∨ (6 : Nat) = 5) by decide, if_false] at h ⊢
    obtain ⟨c1, c2, c3⟩ := label_pot h
    obtain ⟨d1, d2, d3⟩ := num_pot c1
    refine ⟨d1, ⟨⟨by show (1 : Int) ≤ 6; omega, by show (6 : Int) ≤ 6; omega⟩, d2, c2, rfl, (fun e => absurd (show (6 : Int) = 1 from e) (by decide)), (fun e => absurd (show (6 : Int) = 2 from e) (by decide)), (fun e => absurd (show (6 : Int) = 4 from e) (by decide)), (fun e => absurd (show (6 : Int) = 3 ∨ (6 : Int) = 5 from e) (by decide))⟩, rfl, ?_⟩
    show sumL [Lib.itoa _, labK _] + _ ≤ _
    simp only [sumL_cons, e0]
    omega
/-! ### Lines -/
theorem kindOf_W {w : List UInt8} (h : kindOf w ≠ 0) : kindW.getD (kindOf w) [] = w ∧ 1 ≤ kindOf w ∧ kindOf w ≤ 6 := by
  have e : kindOf w = (kindW.findIdx? (· == w)).getD 0 := rfl
  cases hf : kindW.findIdx? (· == w) with
  | none => rw [e, hf] at h; exact absurd rfl h
  | some i =>
    rw [e, hf] at h ⊢
    simp only [Option.getD_some] at h ⊢
    obtain ⟨h1, h2, -⟩ := List.findIdx?_eq_some_iff_getElem.1 hf
    have h7 : kindW.length = 7 := rfl
    refine ⟨?_, by omega, by omega⟩
    rw [List.getD_eq_getElem?_getD, List.getElem?_eq_getElem h1]
    simpa using h2
theorem line_pot {l : List UInt8} (h : (Rd.word ⟨l, false⟩).1.bad = false) : (Rd.word ⟨l, false⟩).2.length + pot (Rd.word ⟨l, false⟩).1.s ≤ l.length := by
  obtain ⟨h1, h2, h3⟩ := word_pot h
  have := pot_le l
  simp only at h3
  omega
theorem over_pot {r : Rd} (h : r.over = true) : pot r.s = 0 := by
  unfold Rd.over at h
  unfold pot
  rw [if_pos (by simpa using h)]
/-- The lines behind the first one: what they tell is in order, and its text is no longer. -/
theorem lines_pot : ∀ (ls : List (List UInt8)) (bad : Bool) (c : WCfg), (readLines ls bad c).1 = false → bad = false ∧ ∃ ss os, (readLines ls bad c).2 = { c with slots := c.slots ++ ss, objs := c.objs ++ os } ∧ (∀ s ∈ ss, N31 s.1 ∧ N31 s.2) ∧ (∀ o ∈ os, o.ok) ∧
    sumL (ss.map slotT) + sumL (os.map objT) ≤ sumL ls
  | [], bad, c, h => ⟨h, [], [], by simp [readLines], by simp, by simp, by show 0 + 0 ≤ _; omega⟩
  | s :: r, bad, c, h => by
    unfold readLines at h ⊢
    simp only at h ⊢
    split at h
    · rename_i hc
      rw [if_pos hc]
      obtain ⟨h1, ss, os, h2, h3, h4, h5⟩ := lines_pot r _ _ h
      simp only [Bool.or_eq_false_iff, Bool.not_eq_false'] at h1
      obtain ⟨b1, b2, b3⟩ := num_pot h1.2.1
      obtain ⟨c1, c2, c3⟩ := num_pot b1
      have hl := line_pot c1
      have ho := over_pot h1.2.2
      refine ⟨h1.1, ((Rd.word ⟨s, false⟩).1.num.2, (Rd.word ⟨s, false⟩).1.num.1.num.2) :: ss, os, ?_, fun x hx => ?_, h4, ?_⟩
      · rw [h2]; simp
      · rcases List.mem_cons.1 hx with rfl | hx
        · exact ⟨c2, b2⟩
        · exact h3 x hx
      · rw [List.map_cons, sumL_cons, sumL_cons]
        have e : ∀ x y : Int, (slotT (x, y)).length = 4 + ((Lib.itoa x).length + 1 + ((Lib.itoa y).length + 1)) := fun x y => by
          unfold slotT numT slotW
          simp only [List.length_append, List.length_cons, List.length_nil]
        have hw : (Rd.word ⟨s, false⟩).2.length = 4 := by rw [hc.1]; rfl
        rw [e]
        omega
    · rename_i hc
      rw [if_neg hc]
      obtain ⟨h1, ss, os, h2, h3, h4, h5⟩ := lines_pot r _ _ h
      simp only [Bool.or_eq_false_iff, Bool.not_eq_false', decide_eq_false_iff_not] at h1
      obtain ⟨k1, k2⟩ := kindOf_W h1.1.2
      obtain ⟨b1, b2, b3, b4⟩ := object_pot k2 h1.2.1
      have hl := line_pot b1
      have ho := over_pot h1.2.2
      refine ⟨h1.1.1, ss, ((Rd.word ⟨s, false⟩).1.object (kindOf (Rd.word ⟨s, false⟩).2)).2 :: os, ?_, h3, fun x hx => ?_, ?_⟩
      · rw [h2]; simp
      · rcases List.mem_cons.1 hx with rfl | hx
        · exact b2
        · exact h4 x hx
      · rw [List.map_cons, sumL_cons, sumL_cons, objK_T, b3, Int.toNat_natCast, k1, List.length_append, wide_sum]
        omega
theorem head_pot {l : List UInt8} (h : (readHead l).1 = false) : ∃ x y z, (readHead l).2 = ⟨x, y, z, [], []⟩ ∧ N31 x ∧ N31 y ∧ N31 z ∧ (headT ⟨x, y, z, [], []⟩).length ≤ l.length := by
  unfold readHead at h ⊢
  simp only [Bool.or_eq_false_iff, Bool.not_eq_false', decide_eq_false_iff_not, Decidable.not_not] at h ⊢
  obtain ⟨a1, a2, a3⟩ := num_pot h.2.1
  obtain ⟨b1, b2, b3⟩ := num_pot a1
  obtain ⟨c1, c2, c3⟩ := num_pot b1
  have hl := line_pot c1
  have ho := over_pot h.2.2
  refine ⟨_, _, _, rfl, c2, b2, a2, ?_⟩
  have e : ∀ x y z : Int, (headT ⟨x, y, z, [], []⟩).length = 7 + ((Lib.itoa x).length + 1 + ((Lib.itoa y).length + 1 + ((Lib.itoa z).length + 1))) := fun x y z => by
    unfold headT numT machW
    simp only [List.length_append, List.length_cons, List.length_nil]
  have hw : (Rd.word ⟨l, false⟩).2.length = 7 := by rw [h.1]; rfl
  rw [e]
  omega
theorem trimS_le (l : List UInt8) : (trimS l).length ≤ l.length := by
  unfold trimS
  have h1 := trimL_le (trimL l.reverse).reverse
  have h2 := trimL_le l.reverse
  simp only [List.length_reverse] at h1 h2
  omega
theorem sumL_map_le (f : List UInt8 → List UInt8) (hf : ∀ l, (f l).length ≤ l.length) (p : List UInt8 → Bool) : ∀ ls : List (List UInt8), sumL ((ls.map f).filter p) ≤ sumL ls
  | [] => Nat.le_refl _
  | l :: r => by
    have ih := sumL_map_le f hf p r
    have := hf l
    rw [List.map_cons, List.filter_cons, sumL_cons]
    split
    · rw [sumL_cons]; omega
    · omega
theorem printT_len (c : WCfg) : (printT c).length = sumL (linesT c) := by
  unfold printT
  induction linesT c with
  | nil => rfl
  | cons l r ih => rw [List.flatMap_cons, List.length_append, ih, sumL_cons]; simp
/-- A text that tells a configuration is no shorter than the configuration's own, but for an end of line. -/
theorem parse_ok {t : List UInt8} {c : WCfg} (h : parseT t = some c) : c.ok ∧ (printT c).length ≤ t.length + 1 := by
  unfold parseT at h
  split at h
  · cases h
  · cases e : linesOf t with
    | nil => rw [e] at h; cases h
    | cons l r =>
      rw [e] at h
      simp only at h
      split at h
      · cases h
      · rename_i hb
        simp only [Option.some.injEq] at h
        obtain ⟨h1, ss, os, h2, h3, h4, h5⟩ := lines_pot r _ _ (by simpa using hb)
        obtain ⟨x, y, z, g1, g2, g3, g4, g5⟩ := head_pot h1
        rw [g1] at h2
        rw [g1, h2] at h
        subst h
        refine ⟨⟨g2, g3, g4, by simpa using h3, by simpa using h4⟩, ?_⟩
        have hs : sumL (linesOf t) ≤ t.length + 1 := by
          rw [← parts_sum 10 t]
          exact sumL_map_le trimS trimS_le _ _
        rw [e, sumL_cons] at hs
        rw [printT_len]
        have hh : ∀ (c : WCfg), sumL (linesT c) = (headT c).length + 1 + (sumL (c.slots.map slotT) + sumL (c.objs.map objT)) := fun c => by
          unfold linesT
          rw [sumL_cons]
          simp [sumL]
        rw [hh]
        have hd : headT { cores := x, frames := y, names := z, slots := [] ++ ss, objs := [] ++ os } = headT ⟨x, y, z, [], []⟩ := rfl
        simp only at hs ⊢
        rw [hd]
        simp only [List.nil_append]
        omega
end Go.Proofs.YtjjnidbggoaonaaGreatDoor
