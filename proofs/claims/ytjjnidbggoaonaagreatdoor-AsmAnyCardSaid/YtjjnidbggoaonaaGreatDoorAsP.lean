/- Lines of the assembler's texts, plainly: what is read of a line that is a word and its operands. No program. -/
import Derived.Test.YtjjnidbggoaonaaGreatDoorAsM
import Derived.Test.YtjjnidbggoaonaaGreatDoorDec
namespace Go.Proofs.YtjjnidbggoaonaaGreatDoor

theorem cutAt_none {c : UInt8} : ∀ {l : List UInt8}, c ∉ l → cutAt c l = none
  | [], _ => rfl
  | x :: r, h => by
    have h1 : ¬ (x == c) = true := fun e => h (by rw [beq_iff_eq] at e; rw [e]; exact List.mem_cons_self)
    unfold cutAt
    rw [if_neg h1, cutAt_none (fun e => h (List.mem_cons_of_mem _ e))]
    rfl
theorem cutAt_some {c : UInt8} : ∀ {l : List UInt8} (r : List UInt8), c ∉ l → cutAt c (l ++ c :: r) = some (l, r)
  | [], r, _ => by unfold cutAt; simp
  | x :: l, r, h => by
    have h1 : ¬ (x == c) = true := fun e => h (by rw [beq_iff_eq] at e; rw [e]; exact List.mem_cons_self)
    show cutAt c (x :: (l ++ c :: r)) = _
    unfold cutAt
    rw [if_neg h1, cutAt_some r (fun e => h (List.mem_cons_of_mem _ e))]
    rfl
theorem partsAt_none {c : UInt8} : ∀ {l : List UInt8}, c ∉ l → partsAt c l = [l]
  | [], _ => rfl
  | x :: r, h => by
    have h1 : ¬ (x == c) = true := fun e => h (by rw [beq_iff_eq] at e; rw [e]; exact List.mem_cons_self)
    unfold partsAt
    rw [if_neg h1, partsAt_none (fun e => h (List.mem_cons_of_mem _ e))]
theorem partsAt_some {c : UInt8} : ∀ {l : List UInt8} (r : List UInt8), c ∉ l → partsAt c (l ++ c :: r) = l :: partsAt c r
  | [], r, _ => by show partsAt c (c :: r) = _; rw [partsAt]; simp
  | x :: l, r, h => by
    have h1 : ¬ (x == c) = true := fun e => h (by rw [beq_iff_eq] at e; rw [e]; exact List.mem_cons_self)
    show partsAt c (x :: (l ++ c :: r)) = _
    rw [partsAt, if_neg h1, partsAt_some r (fun e => h (List.mem_cons_of_mem _ e))]
/-- No blank, no comma, colon or comment's sign, no line's end in it. -/
def plainC (c : UInt8) : Bool := !(c == 32 || c == 9 || c == 44 || c == 58 || c == 35 || c == 10)
def Plain (l : List UInt8) : Prop := l.all plainC = true
theorem plainC_bl {c : UInt8} (h : plainC c = true) : isBl c = false := by
  unfold plainC at h; unfold isBl; simp_all
theorem Plain.nmem {l : List UInt8} (h : Plain l) {c : UInt8} (hc : plainC c = false) : c ∉ l := fun hm => by
  have := List.all_eq_true.1 h c hm
  rw [hc] at this; cases this
theorem Plain.append {l m : List UInt8} (h : Plain l) (k : Plain m) : Plain (l ++ m) := by
  unfold Plain at *; rw [List.all_append, h, k]; rfl
theorem Plain.cons {c : UInt8} {m : List UInt8} (h : plainC c = true) (k : Plain m) : Plain (c :: m) := by
  unfold Plain at *; rw [List.all_cons, h, k]; rfl
theorem dropWhile_of_head {p : UInt8 → Bool} {c : UInt8} {l : List UInt8} (h : p c = false) : (c :: l).dropWhile p = c :: l := by
  rw [List.dropWhile_cons, if_neg (by rw [h]; simp)]
theorem dropWhile_all {p : UInt8 → Bool} {m : List UInt8} : ∀ {l : List UInt8}, l.all p = true → (l ++ m).dropWhile p = m.dropWhile p
  | [], _ => rfl
  | c :: l, h => by
    rw [List.all_cons, Bool.and_eq_true] at h
    rw [List.cons_append, List.dropWhile_cons, if_pos h.1, dropWhile_all h.2]
/-- Blanks around a text that begins and ends with none. -/
theorem trim_core {pre m suf : List UInt8} (h1 : pre.all isBl = true) (h2 : suf.all isBl = true) (hh : ∀ c, m.head? = some c → isBl c = false) (hl : ∀ c, m.getLast? = some c → isBl c = false) : trimB (pre ++ m ++ suf) = m := by
  unfold trimB
  have h3 : suf.reverse.all isBl = true := by rw [List.all_reverse]; exact h2
  rw [List.reverse_append, dropWhile_all h3]
  cases m with
  | nil =>
    rw [List.append_nil]
    have h4 : pre.reverse.all isBl = true := by rw [List.all_reverse]; exact h1
    have h5 := dropWhile_all (m := []) h4
    rw [List.append_nil] at h5
    rw [h5]; rfl
  | cons c r =>
    obtain ⟨d, q, hd⟩ : ∃ d q, (c :: r).reverse = d :: q := by
      cases e : (c :: r).reverse with
      | nil => simp at e
      | cons d q => exact ⟨d, q, rfl⟩
    have hd2 : (c :: r).getLast? = some d := by
      rw [List.getLast?_eq_head?_reverse, hd]; rfl
    have e1 : ((pre ++ c :: r).reverse).dropWhile isBl = (pre ++ c :: r).reverse := by
      rw [List.reverse_append, hd, List.cons_append]
      exact dropWhile_of_head (hl d hd2)
    rw [e1, List.reverse_reverse, dropWhile_all h1, dropWhile_of_head (hh c rfl)]
theorem getLast_app {l m : List UInt8} (h : m ≠ []) : (l ++ m).getLast? = m.getLast? := by
  rw [List.getLast?_append]
  cases e : m.getLast? with
  | none => exact absurd (List.getLast?_eq_none_iff.1 e) h
  | some _ => rfl
theorem Plain.head {l : List UInt8} (h : Plain l) : ∀ c, l.head? = some c → isBl c = false := fun c hc => plainC_bl (List.all_eq_true.1 h c (List.mem_of_mem_head? hc))
theorem Plain.last {l : List UInt8} (h : Plain l) : ∀ c, l.getLast? = some c → isBl c = false := fun c hc => plainC_bl (List.all_eq_true.1 h c (List.mem_of_mem_getLast? hc))
theorem trim_plain {pre m suf : List UInt8} (h1 : pre.all isBl = true) (h2 : suf.all isBl = true) (h : Plain m) : trimB (pre ++ m ++ suf) = m := trim_core h1 h2 h.head h.last

/-- A word and its operands xs a line. -/
def tailA : List (List UInt8) → List UInt8
  | [] => []
  | a :: r => 44 :: 32 :: (a ++ tailA r)
def lineWA (w : List UInt8) : List (List UInt8) → List UInt8
  | [] => w
  | a :: r => w ++ 32 :: (a ++ tailA r)
theorem wordOf_line {w : List UInt8} (hw : Plain w) (xs : List (List UInt8)) : wordOf (lineWA w xs) = w := by
  have h1 : ∀ c ∈ w, (!isBl c) = true := fun c hc => by rw [plainC_bl (List.all_eq_true.1 hw c hc)]; rfl
  unfold wordOf
  cases xs with
  | nil => show w.takeWhile _ = w; have := List.takeWhile_append_of_pos (l₂ := []) h1; simpa using this
  | cons a r =>
    show (w ++ 32 :: _).takeWhile _ = w
    rw [List.takeWhile_append_of_pos h1, List.takeWhile_cons, if_neg (by decide), List.append_nil]
theorem parts_tail {xs : List (List UInt8)} (h : ∀ a ∈ xs, Plain a) {b : List UInt8} (hb : Plain b) : (partsAt 44 (32 :: (b ++ tailA xs))).map trimB = b :: xs := by
  induction xs generalizing b with
  | nil =>
    have h1 : (44 : UInt8) ∉ 32 :: (b ++ tailA []) := by
      intro e
      rw [show tailA [] = [] from rfl, List.append_nil] at e
      rcases List.mem_cons.1 e with e | e
      · cases e
      · exact hb.nmem (c := 44) (by decide) e
    rw [partsAt_none h1, List.map_cons, List.map_nil]
    have := trim_plain (pre := [32]) (suf := []) (by decide) rfl hb
    rw [List.append_nil] at this
    rw [show tailA [] = [] from rfl, List.append_nil]
    exact congrArg (· :: []) this
  | cons a r ih =>
    have h1 : (44 : UInt8) ∉ 32 :: b := by
      intro e
      rcases List.mem_cons.1 e with e | e
      · cases e
      · exact hb.nmem (c := 44) (by decide) e
    have e1 : 32 :: (b ++ tailA (a :: r)) = (32 :: b) ++ 44 :: (32 :: (a ++ tailA r)) := rfl
    rw [e1, partsAt_some _ h1, List.map_cons, ih (fun x hx => h x (List.mem_cons_of_mem _ hx)) (h a List.mem_cons_self)]
    have := trim_plain (pre := [32]) (suf := []) (by decide) rfl hb
    rw [List.append_nil] at this
    exact congrArg (· :: _) this
theorem argsOf_line {w : List UInt8} (hw : Plain w) {xs : List (List UInt8)} (h : ∀ a ∈ xs, Plain a) : argsOf (lineWA w xs) = xs := by
  have h1 : w.all (fun c => !isBl c) = true := List.all_eq_true.2 fun c hc => by rw [plainC_bl (List.all_eq_true.1 hw c hc)]; rfl
  unfold argsOf
  cases xs with
  | nil =>
    have h2 := dropWhile_all (m := []) h1
    rw [List.append_nil] at h2
    show (match w.dropWhile _ with | [] => [] | r => (partsAt 44 r).map trimB) = []
    rw [h2]; rfl
  | cons a r =>
    show (match (w ++ 32 :: (a ++ tailA r)).dropWhile _ with | [] => [] | r => (partsAt 44 r).map trimB) = a :: r
    rw [dropWhile_all h1, dropWhile_of_head (by decide)]
    exact parts_tail (fun x hx => h x (List.mem_cons_of_mem _ hx)) (h a List.mem_cons_self)
/-- No comment's sign, no colon, no line's end in a line of plain words. -/
theorem line_nmem {w : List UInt8} (hw : Plain w) {xs : List (List UInt8)} (h : ∀ a ∈ xs, Plain a) {c : UInt8} (hc : c = 35 ∨ c = 58 ∨ c = 10) : c ∉ lineWA w xs := by
  have hp : plainC c = false := by rcases hc with rfl | rfl | rfl <;> decide
  have h32 : c ≠ 32 := by rcases hc with rfl | rfl | rfl <;> decide
  have h44 : c ≠ 44 := by rcases hc with rfl | rfl | rfl <;> decide
  have ht : ∀ xs : List (List UInt8), (∀ a ∈ xs, Plain a) → c ∉ tailA xs := by
    intro xs h
    induction xs with
    | nil => simp [tailA]
    | cons a r ih =>
      unfold tailA
      simp only [List.mem_cons, List.mem_append, not_or]
      exact ⟨h44, h32, (h a List.mem_cons_self).nmem hp, ih fun x hx => h x (List.mem_cons_of_mem _ hx)⟩
  cases xs with
  | nil => exact hw.nmem hp
  | cons a r =>
    unfold lineWA
    simp only [List.mem_cons, List.mem_append, not_or]
    exact ⟨hw.nmem hp, h32, (h a List.mem_cons_self).nmem hp, ht r fun x hx => h x (List.mem_cons_of_mem _ hx)⟩
theorem line_ends {w : List UInt8} (hw : Plain w) (hw0 : w ≠ []) {xs : List (List UInt8)} (h : ∀ a ∈ xs, Plain a) (h0 : ∀ a ∈ xs, a ≠ []) :
    (∀ c, (lineWA w xs).head? = some c → isBl c = false) ∧ (∀ c, (lineWA w xs).getLast? = some c → isBl c = false) ∧ lineWA w xs ≠ [] := by
  have ht : ∀ (xs : List (List UInt8)) (b : List UInt8), Plain b → b ≠ [] → (∀ a ∈ xs, Plain a) → (∀ a ∈ xs, a ≠ []) → ∀ c, (b ++ tailA xs).getLast? = some c → isBl c = false := by
    intro xs
    induction xs with
    | nil => intro b hb _ _ _ c hc; rw [show tailA [] = [] from rfl, List.append_nil] at hc; exact hb.last c hc
    | cons a r ih =>
      intro b hb _ h h0 c hc
      have e : b ++ tailA (a :: r) = (b ++ [44, 32]) ++ (a ++ tailA r) := by simp [tailA]
      have hne : a ++ tailA r ≠ [] := by
        have := h0 a List.mem_cons_self
        intro e; exact this (List.append_eq_nil_iff.1 e).1
      rw [e, getLast_app hne] at hc
      exact ih a (h a List.mem_cons_self) (h0 a List.mem_cons_self) (fun x hx => h x (List.mem_cons_of_mem _ hx)) (fun x hx => h0 x (List.mem_cons_of_mem _ hx)) c hc
  obtain ⟨x, w', rfl⟩ : ∃ x w', w = x :: w' := by cases w with | nil => exact absurd rfl hw0 | cons x w' => exact ⟨x, w', rfl⟩
  cases xs with
  | nil => exact ⟨hw.head, hw.last, by simp [lineWA]⟩
  | cons a r =>
    refine ⟨fun c hc => ?_, fun c hc => ?_, by simp [lineWA]⟩
    · simp [lineWA] at hc
      exact hw.head c (by simp [hc])
    · have e : lineWA (x :: w') (a :: r) = (x :: w' ++ [32]) ++ (a ++ tailA r) := by simp [lineWA]
      have hne : a ++ tailA r ≠ [] := by
        have := h0 a List.mem_cons_self
        intro e; exact this (List.append_eq_nil_iff.1 e).1
      rw [e, getLast_app hne] at hc
      exact ht r a (h a List.mem_cons_self) (h0 a List.mem_cons_self) (fun x hx => h x (List.mem_cons_of_mem _ hx)) (fun x hx => h0 x (List.mem_cons_of_mem _ hx)) c hc
end Go.Proofs.YtjjnidbggoaonaaGreatDoor
