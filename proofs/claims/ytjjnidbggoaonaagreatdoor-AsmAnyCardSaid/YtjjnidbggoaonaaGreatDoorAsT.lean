/- The assembler's whole: Assemble. -/
import Derived.Test.YtjjnidbggoaonaaGreatDoorAsTa
namespace Go.Proofs.YtjjnidbggoaonaaGreatDoor
open Go.RowKit
attribute [local irreducible] World.setCell World.alloc World.drew Calls Code.wp
attribute [local go_sem] Oper.semAt_some

theorem readAll_snoc (l : List UInt8) : ∀ (ls : List (List UInt8)) (s : ASrc) (n at_ : Nat), readAll s (ls ++ [l]) n at_ = readA (readAll s ls n at_).1 l (n + ls.length) (readAll s ls n at_).2
  | [], s, n, at_ => rfl
  | x :: r, s, n, at_ => by
    show readAll (readA s x n at_).1 (r ++ [l]) (n + 1) (readA s x n at_).2 = _
    rw [readAll_snoc l r, show n + (x :: r).length = n + 1 + r.length by simp; omega]; rfl
theorem readA_bd (s : ASrc) (l : List UInt8) (n at_ : Nat) (h : at_ ≤ 1048576) : (readA s l n at_).2 ≤ 1048576 := by
  unfold readA
  dsimp only
  split
  · exact h
  · exact Nat.min_le_right _ _
theorem readAll_take {L : List (List UInt8)} {j : Nat} {p : List UInt8} (s : ASrc) (n at_ : Nat) (h : L[j]? = some p) : readAll s (L.take (j + 1)) n at_ = readA (readAll s (L.take j) n at_).1 p (n + j) (readAll s (L.take j) n at_).2 := by
  obtain ⟨h1, h2⟩ := List.getElem?_eq_some_iff.1 h
  rw [List.take_succ_eq_append_getElem h1, h2, readAll_snoc, List.length_take, Nat.min_eq_left (by omega)]
theorem partsAt_mem (c : UInt8) : ∀ (l : List UInt8), ∀ p ∈ partsAt c l, ∀ x ∈ p, x ∈ l
  | [], p, hp, x, hx => by
    rw [partsAt, List.mem_singleton] at hp
    rw [hp] at hx; cases hx
  | y :: r, p, hp, x, hx => by
    rw [partsAt] at hp
    split at hp
    · rcases List.mem_cons.1 hp with rfl | hp
      · cases hx
      · exact List.mem_cons_of_mem _ (partsAt_mem c r p hp x hx)
    · split at hp
      · rw [List.mem_singleton] at hp
        subst hp
        rw [List.mem_singleton] at hx
        subst hx; exact List.mem_cons_self
      · rename_i q qs e
        rcases List.mem_cons.1 hp with rfl | hp
        · rcases List.mem_cons.1 hx with rfl | hx
          · exact List.mem_cons_self
          · exact List.mem_cons_of_mem _ (partsAt_mem c r q (by rw [e]; exact List.mem_cons_self) x hx)
        · exact List.mem_cons_of_mem _ (partsAt_mem c r p (by rw [e]; exact List.mem_cons_of_mem _ hp) x hx)
theorem makeAll_snoc (labels : List (List UInt8 × Nat)) (l : ALine) : ∀ (ls : List ALine) (f : Nat × Nat) (out : List Int), makeAll labels f (ls ++ [l]) out = if (makeAll labels f ls out).1.1 = 0 then ((makeA labels (makeAll labels f ls out).1 l).1, (makeAll labels f ls out).2 ++ (makeA labels (makeAll labels f ls out).1 l).2) else makeAll labels f ls out
  | [], f, out => by
    show makeAll labels f [l] out = _
    unfold makeAll
    split
    · rfl
    · rfl
  | x :: r, f, out => by
    show makeAll labels f (x :: (r ++ [l])) out = _
    rw [makeAll, makeAll]
    split
    · exact makeAll_snoc labels l r _ _
    · exact makeAll_snoc labels l r _ _
theorem makeAll_take {labels : List (List UInt8 × Nat)} {L : List ALine} {j : Nat} {l : ALine} (f : Nat × Nat) (h : L[j]? = some l) : makeAll labels f (L.take (j + 1)) [] = if (makeAll labels f (L.take j) []).1.1 = 0 then ((makeA labels (makeAll labels f (L.take j) []).1 l).1, (makeAll labels f (L.take j) []).2 ++ (makeA labels (makeAll labels f (L.take j) []).1 l).2) else makeAll labels f (L.take j) [] := by
  obtain ⟨h1, h2⟩ := List.getElem?_eq_some_iff.1 h
  rw [List.take_succ_eq_append_getElem h1, h2, makeAll_snoc]
/-- A row's slice, and its cells. -/
theorem row_form {w : World} {base e size n : Nat} {v : Value} {xs : List Value} (h : w.ownsRow base e size v n xs) : ∃ x c, v = .slice x n c ∧ (n = 0 ∨ ∃ g, x = some ⟨g, 0, none⟩ ∧ ∀ k u, xs[k]? = some u → w.cell? ⟨g, k, none⟩ = some u) := by
  rcases h.2 with ⟨rfl, h0⟩ | ⟨g, cap, cur, rfl, _, hh, _⟩
  · subst h0; exact ⟨_, _, rfl, .inl rfl⟩
  · refine ⟨_, _, rfl, .inr ⟨g, rfl, fun k u hk => ?_⟩⟩
    obtain ⟨h1, h2⟩ := List.getElem?_eq_some_iff.1 hk
    rw [h.cellAt k (by rw [← h.1]; exact h1)]
    exact hk
theorem rowC_get {ps : List (ALine × Value)} {j : Nat} {p : ALine × Value} (h : ps[j]? = some p) (k : Nat) (hk : k < 5) : (rowC ps)[j * 5 + k]? = (lineC p.1 p.2)[k]? := by
  induction ps generalizing j with
  | nil => simp at h
  | cons q r ih =>
    have hq : rowC (q :: r) = (lineC q.1 q.2).toList ++ rowC r := by simp [rowC]
    have h5 : (lineC q.1 q.2).toList.length = 5 := rfl
    rw [hq]
    cases j with
    | zero =>
      simp only [List.getElem?_cons_zero, Option.some.injEq] at h
      subst h
      rw [List.getElem?_append_left (by omega), Nat.zero_mul, Nat.zero_add, Array.getElem?_toList]
    | succ j =>
      rw [List.getElem?_append_right (by omega), h5, show (j + 1) * 5 + k - 5 = j * 5 + k by omega]
      exact ih (by simpa using h)
theorem SrcAt.bytes {w w' : World} {g0 sb mb : Nat} {s : ASrc} {Lv : Value} {ps : List (ALine × Value)} (h : SrcAt w g0 sb mb s Lv ps) {T : Nat → Prop} (k : Kept T w w') (hT : ∀ b, T b → g0 ≤ b ∧ ∃ cur, w.heap[b]? = some (.cells cur 5 (0, 0))) : SrcAt w' g0 sb mb s Lv ps := by
  refine ⟨h.has.kept k (fun b e => (hT b e).1), h.src.below' k (fun e => ?_), h.mp.kept k (fun e => ?_), row_kept h.row k (fun b hb e => ?_), h.eq, fun p hp => (h.args p hp).kept k (fun b ⟨cs, fz, hh⟩ _ e => ?_), h.ok, h.lab⟩
  · obtain ⟨_, cur, hh⟩ := hT _ e
    have := h.src
    unfold Blk at this
    rw [this] at hh
    simp at hh
  · obtain ⟨_, cur, hh⟩ := hT _ e
    obtain ⟨arr, clock, h2, _⟩ := h.mp.at_
    rw [h2] at hh
    simp at hh
  · obtain ⟨cur2, h2, _⟩ := row_type h.row hb
    obtain ⟨_, cur, hh⟩ := hT _ e
    rw [h2] at hh
    simp at hh
  · obtain ⟨_, cur, h2⟩ := hT _ e
    rw [hh] at h2
    simp at h2
theorem makeA_len (labels : List (List UInt8 × Nat)) (f : Nat × Nat) (l : ALine) (h : l.len ≤ 128) : (makeA labels f l).2.length ≤ 1024 := by
  unfold makeA
  split
  · simp; omega
  · split
    · split
      · simp [be8]
      · simp
    · dsimp only
      split
      · simp
      · simp [Ins.enc]
theorem results_tc {fn : Func} {t p : Tmp} {ty : TypeId} (h : fn.results = #[.tmp t, .cell p ty]) (tmps : Array Value) (w : World) (ad : Addr) (v : Value)
    (hp : tmps.getD p undef = .pointer (some ad)) (hL : (loadVar ty ad).run Tryz.prog w = .ok v w) :
    (results fn tmps).run Tryz.prog w = .ok (.tuple #[tmps.getD t undef, v]) w := by
  have hp' : tmps[p]?.getD undef = .pointer (some ad) := by simpa using hp
  simp [results, h, hp', asAddr, hL, Result.andThen]
theorem load_fault (w : World) (lb : Nat) (cs : Array Value) (hs : cs.size = 2) (h : Blk w lb cs 30) : (loadVar 30 ⟨lb, 0, none⟩).run Tryz.prog w = .ok (.agg cs) w :=
  run_loadVar_row w lb 30 30 cs (0, 0) _ h Tryz.underlying30 rfl (by rw [hs]; kernel_rfl)
/-- What Assemble leaves. -/
def AsmPost (text : List UInt8) (w : World) (e : Ending) (w' : World) : Prop :=
  ∃ v, e = .returned (.tuple #[v, .agg #[.int .i64 ((assemble text).2.1 : Nat), .int .i64 ((assemble text).2.2 : Nat)]]) ∧ StrIn w' v (assemble text).1 ∧ Below w.heap.size w w'
theorem asm_end {text : List UInt8} {w wx : World} {a : Act} {fn : Func} {fb : Nat} {v : Value} {k l : Nat} (hfn : fn.results = #[.tmp 2, .cell 3 30]) (h2 : a.tmps.getD 2 undef = v) (h3 : a.tmps.getD 3 undef = .pointer (some ⟨fb, 0, none⟩)) (hF : Blk wx fb #[.int .i64 (k : Nat), .int .i64 (l : Nat)] 30)
    (hr : (assemble text).2 = (k, l)) (hv : StrIn wx v (assemble text).1) (hb : Below w.heap.size w wx) (hd : a.defers = []) : bodyPost Tryz.prog fn (AsmPost text w) Exit.ret a wx := by
  refine bodyPost_ret (results_tc hfn _ _ ⟨fb, 0, none⟩ _ h3 (load_fault _ _ _ rfl hF)) hd ⟨v, ?_, hv, hb⟩
  rw [hr, h2]
theorem strIn_nil (w : World) : StrIn w (.slice none 0 0) [] := own_str (base := 0) (E := 0) (World.ownsRow_nil _ _ _ _)
set_option maxRecDepth 100000 in
set_option maxHeartbeats 8000000 in
theorem assemble_any (text : List UInt8) (hl : text.length ≤ 100000) (hia : ∀ t : List UInt8, (∀ c ∈ t, c ∈ text) → t.length ≤ 16384 → IaT t) (w : World) (h : HasAs w) :
    Calls Tryz.prog 15 #[S text] w (AsmPost text w) := by
  have H := Lib.hid h; have Hia := Lib.hid hia
  have hmm := @run_makeMap Tryz.prog
  have HSp := Lib.hid (fun w hm => split_any 10 text (by omega) w hm)
  have hPl := partsAt_len 10 text
  have hPe := partsAt_each 10 text
  have HPm := Lib.hid (partsAt_mem 10 text)
  obtain ⟨g0, hg0⟩ : ∃ g0, g0 = w.heap.size := ⟨_, rfl⟩
  clear h hia
  go_enter Tryz.func15, Tryz.ntmps15
  by_cases hlong : 16384 < text.length
  · have Hr : Hid (assemble text = ([], 7, 0)) := by show _ = _; unfold assemble; rw [if_pos hlong]
    have hx : (16384 : Int) < text.length := by omega
    clear hlong hPl hPe
    go_wp2_with fail
    refine asm_end (fb := w.heap.size) rfl rfl rfl (Blk.new w #[.int .i64 ((7 : Nat) : Int), .int .i64 ((0 : Nat) : Int)] 30) (by rw [Hr.out]) (by rw [Hr.out]; exact strIn_nil _) ((Below.refl _ w).alloc (Nat.le_refl _) _) rfl
  · have hx : ¬ ((16384 : Int) < text.length) := by omega
    obtain ⟨P, hP⟩ : ∃ P, partsAt 10 text = P := ⟨_, rfl⟩
    have HP := Lib.hid hP
    rw [hP] at HSp HPm hPl hPe
    have HPe : Hid (∀ p ∈ P, p.length ≤ 16384) := fun p hp => Nat.le_trans (hPe p hp) (by omega)
    have hPb : P.length ≤ 16385 := by omega
    have hW3 : ∃ ws, ws = (((w.alloc (.cells #[.int .i64 0, .int .i64 0] 30)).alloc (.map #[] 0)).alloc (.cells #[.slice none 0 0, .map (some (w.heap.size + 1)), .int .i64 0, .int .i64 0] 73)) := ⟨_, rfl⟩
    have HB3 : Hid (Below g0 w (((w.alloc (.cells #[.int .i64 0, .int .i64 0] 30)).alloc (.map #[] 0)).alloc (.cells #[.slice none 0 0, .map (some (w.heap.size + 1)), .int .i64 0, .int .i64 0] 73))) := by
      rw [hg0]
      exact (((Below.refl _ w).alloc (Nat.le_refl _) _).alloc (by simp) _).alloc (by simp; omega) _
    have hmx : HasMax (((w.alloc (.cells #[.int .i64 0, .int .i64 0] 30)).alloc (.map #[] 0)).alloc (.cells #[.slice none 0 0, .map (some (w.heap.size + 1)), .int .i64 0, .int .i64 0] 73)) := H.out.mx.below (by have := HB3.out; rw [hg0] at this; exact this)
    have Hmx := Lib.hid hmx
    clear hP hPe hmx hW3 hlong
    go_upto_region 5 with fail
    go_wp2_with fail
    refine (HSp.out _ Hmx.out).mono ?_
    rintro e w5 ⟨rfl, hw5⟩
    have Hw5 := Lib.hid hw5
    obtain ⟨qb, hqb⟩ : ∃ qb, qb = (((w.alloc (.cells #[.int .i64 0, .int .i64 0] 30)).alloc (.map #[] 0)).alloc (.cells #[.slice none 0 0, .map (some (w.heap.size + 1)), .int .i64 0, .int .i64 0] 73)).heap.size := ⟨_, rfl⟩
    rw [← hqb]
    obtain ⟨mb, hmb⟩ : ∃ mb, mb = g0 + 1 := ⟨_, rfl⟩
    obtain ⟨sb, hsb⟩ : ∃ sb, sb = g0 + 2 := ⟨_, rfl⟩
    have hsm : sb ≠ mb := by omega
    have hgs : g0 ≤ sb := by omega
    have hgm : g0 ≤ mb := by omega
    have HB5 : Hid (Below g0 w w5) := by rw [hw5]; exact HB3.out.alloc (by have := HB3.out.size; omega) _
    have HQ5 : Hid (Blk w5 qb (P.map S).toArray 9) := by rw [hw5, hqb]; exact Blk.new _ _ _
    have HF5 : Hid (Blk w5 g0 #[.int .i64 0, .int .i64 0] 30) := by rw [hw5, hg0]; exact ((((Blk.new w _ _).alloc _).alloc _).alloc _)
    have hS5 : Blk w5 sb (srcC (.slice none 0 0) (.map (some mb)) (0, 0)) 73 := by
      rw [hw5, hsb, hmb, hg0]
      have := (Blk.new ((w.alloc (.cells #[.int .i64 0, .int .i64 0] 30)).alloc (.map #[] 0)) #[.slice none 0 0, .map (some (w.heap.size + 1)), .int .i64 0, .int .i64 0] 73).alloc (.cells (P.map S).toArray 9)
      rw [World.size_alloc, World.size_alloc] at this
      exact this
    have hM5 : MapStr.MapAt w5 mb [] := by
      rw [hw5, hmb, hg0]
      have := ((MapStr.MapAt.new (w.alloc (.cells #[.int .i64 0, .int .i64 0] 30))).alloc (.cells #[.slice none 0 0, .map (some (w.heap.size + 1)), .int .i64 0, .int .i64 0] 73)).alloc (.cells (P.map S).toArray 9)
      rw [World.size_alloc] at this
      exact this
    have HS5 : Hid (SrcAt w5 g0 sb mb ⟨[], [], 0, 0⟩ (.slice none 0 0) []) := ⟨⟨w, H.out, hg0.symm, HB5.out⟩, hS5, hM5, World.ownsRow_nil _ _ _ _, rfl, fun _ h => absurd h (List.not_mem_nil), fun _ h => absurd h (List.not_mem_nil), fun _ h => absurd h (List.not_mem_nil)⟩
    have Hnm : Hid (qb = g0 + 3 ∧ sb = g0 + 2 ∧ mb = g0 + 1) := by refine ⟨?_, hsb, hmb⟩; rw [hqb, World.size_alloc, World.size_alloc, World.size_alloc]; omega
    have e1 : w.heap.size = g0 := hg0.symm
    have e2 : w.heap.size + 1 + 1 = sb := by omega
    have e3 : w.heap.size + 1 = mb := by omega
    rw [e2, e1]
    have Hg0 := Lib.hid hg0
    clear hw5 hqb hS5 hM5 Hw5 Hmx HB3 HSp e1 e2 e3 hg0 hsb hmb hmm
    go_wp2_with fail
    go_loopg [5, 6, 7, 21] P.length (fun g at0 _ _ vi wx => ∃ (j at_ : Nat) (s : ASrc) (Lv : Value) (ps : List (ALine × Value)), j + g = P.length ∧ vi = .int .i64 j ∧ at0 = .int .i64 at_ ∧ at_ ≤ 1048576 ∧ ps.length ≤ j ∧ Hid (readAll ⟨[], [], 0, 0⟩ (P.take j) 1 0 = (s, at_)) ∧ Hid (SrcAt wx g0 sb mb s Lv ps) ∧ Hid (Blk wx qb (P.map S).toArray 9) ∧ Hid (Blk wx g0 #[.int .i64 0, .int .i64 0] 30) ∧ Hid (Below g0 w wx))
    case atStart => exact ⟨0, 0, ⟨[], [], 0, 0⟩, .slice none 0 0, [], by omega, rfl, rfl, by omega, Nat.le_refl _, rfl, HS5, HQ5, HF5, HB5⟩
    case round =>
      obtain ⟨j, at_, s, Lv, ps, hj, rfl, rfl, hat, hps, HR, HS, HQ, HF, HB⟩ := hrel
      by_cases hlt : j < P.length
      · have hlt' : (j : Int) < P.length := by omega
        obtain ⟨p, hp⟩ : ∃ p, P[j]? = some p := ⟨_, List.getElem?_eq_getElem hlt⟩
        have hcp : wr.cell? ⟨qb, j, none⟩ = some (S p) := by rw [HQ.out.cell]; simp [hp]
        have HRr : Hid (readAll ⟨[], [], 0, 0⟩ (P.take (j + 1)) 1 0 = readA s p (1 + j) at_) := by show _ = _; rw [readAll_take _ _ _ hp, HR.out]
        have Hrd := Lib.hid (read_any sb mb s Lv ps p (j + 1) at_ (HPe.out p (List.mem_of_getElem? hp)) (by omega) hat wr g0 HS.out hsm hgs hgm (fun t h1 h2 => Hia.out t (fun c hc => HPm.out p (List.mem_of_getElem? hp) c (h1 c hc)) h2))
        have Hnb := readA_bd s p (j + 1) at_ hat
        rw [Nat.add_comm 1 j] at HRr
        obtain ⟨r, hr⟩ : ∃ r, readA s p (j + 1) at_ = r := ⟨_, rfl⟩
        rw [hr] at HRr Hrd Hnb
        have hw1 : IntKind.i64.wrap ((j : Int) + 1) = (j : Int) + 1 := IntWalk.i64_in _ (by omega)
        clear hp hr
        go_wp2_with fail
        refine (Hrd.out).mono ?_
        rintro e w6 ⟨rfl, Lv', ps', hS6, hp6, hK6⟩
        have HQ6 : Hid (Blk w6 qb (P.map S).toArray 9) := HQ.out.below' hK6 (fun e => by
          obtain ⟨n1, n2, n3⟩ := Hnm.out
          rcases e with e | e | e
          · omega
          · omega
          · obtain ⟨cur, hh, _⟩ := row_type HS.out.row e
            have := HQ.out
            unfold Blk at this
            rw [this] at hh
            simp at hh)
        have HF6 : Hid (Blk w6 g0 #[.int .i64 0, .int .i64 0] 30) := HF.out.below' hK6 (fun e => by
          obtain ⟨n1, n2, n3⟩ := Hnm.out
          rcases e with e | e | e
          · omega
          · omega
          · obtain ⟨cur, hh, _⟩ := row_type HS.out.row e
            have := HF.out
            unfold Blk at this
            rw [this] at hh
            simp at hh)
        have HB6 : Hid (Below g0 w w6) := HB.out.trans (hK6.below (by have := HB.out.size; have := Hg0.out; omega) (fun b hb e => by
          obtain ⟨n1, n2, n3⟩ := Hnm.out
          rcases e with e | e | e
          · omega
          · omega
          · obtain ⟨cur, hh, _⟩ := row_type HS.out.row e
            omega))
        have HS6 := Lib.hid hS6
        clear hS6 hK6 hcp Hrd
        go_wp2_with fail
        go_roundg (P.length - (j + 1))
        case measure => omega
        case rel => exact ⟨j + 1, r.2, r.1, Lv', ps', by omega, by go_num, rfl, Hnb, by omega, HRr, HS6, HQ6, HF6, HB6⟩
      · obtain rfl : j = P.length := by omega
        have HR2 : Hid (readAll ⟨[], [], 0, 0⟩ P 1 0 = (s, at_)) := by have := HR.out; rw [List.take_length] at this; exact this
        clear HR
        have hw8 : IntKind.i64.wrap (8 * (at_ : Int)) = 8 * (at_ : Int) := IntWalk.i64_in _ (by omega)
        have hfk : wr.cell? ⟨sb, 2, none⟩ = some (.int .i64 s.fk) := (HS.out.src.cell 2).trans rfl
        go_upto_region 10 with fail
        go_cut [43] (fun v wx => ∃ cb : Bool, v = .bool cb ∧ Hid (cb = decide (1024 < 8 * at_ ∧ s.fk = 0)) ∧ wr = wx)
        case first =>
          by_cases h1 : 1024 < 8 * at_
          · have h1' : (1024 : Int) < 8 * (at_ : Int) := by omega
            by_cases h2 : s.fk = 0
            · have Hd : Hid (decide (1024 < 8 * at_ ∧ s.fk = 0) = true) := by show _ = _; exact decide_eq_true ⟨h1, h2⟩
              have h2' : (s.fk : Int) = 0 := by omega
              have h2b : ((s.fk : Int) == 0) = true := by rw [h2']; rfl
              clear h1 h2
              go_wp2_with fail
              go_meet
              exact ⟨true, by first | rfl | rw [h2b], Hd.out.symm, rfl⟩
            · have Hd : Hid (decide (1024 < 8 * at_ ∧ s.fk = 0) = false) := by show _ = _; exact decide_eq_false (fun h => h2 h.2)
              have h2' : ¬ ((s.fk : Int) = 0) := by omega
              have h2b : ((s.fk : Int) == 0) = false := by simpa using h2'
              clear h1 h2
              go_wp2_with fail
              go_meet
              exact ⟨false, by first | rfl | rw [h2b], Hd.out.symm, rfl⟩
          · have Hd : Hid (decide (1024 < 8 * at_ ∧ s.fk = 0) = false) := by show _ = _; exact decide_eq_false (fun h => h1 h.1)
            have h1' : ¬ ((1024 : Int) < 8 * (at_ : Int)) := by omega
            clear h1
            go_wp2_with fail
            go_meet
            exact ⟨false, rfl, Hd.out.symm, rfl⟩
        case rest =>
        obtain ⟨cb, rfl, Hcb, hwc⟩ := hcut
        obtain rfl : wr = wc := hwc
        clear hfk hw8
        by_cases hbig : 1024 < 8 * at_ ∧ s.fk = 0
        · obtain rfl : cb = true := Hcb.out.trans (decide_eq_true hbig)
          have Hr : Hid (assemble text = ([], 7, 0)) := by
            show _ = _
            unfold assemble
            rw [if_neg (by omega), HP.out, HR2.out]
            exact if_pos hbig
          clear hbig Hcb
          have hc0 : wr.cell? ⟨g0, 0, none⟩ = some (.int .i64 0) := (HF.out.cell 0).trans rfl
          have hc1 : wr.cell? ⟨g0, 1, none⟩ = some (.int .i64 0) := (HF.out.cell 1).trans rfl
          have hz0 : wr.frozen? ⟨g0, 0, none⟩ = false := HF.out.free 0
          have hz1 : wr.frozen? ⟨g0, 1, none⟩ = false := HF.out.free 1
          go_wp2_with fail
          refine asm_end rfl rfl rfl (((HF.out.set 0 (.int .i64 ((7 : Nat) : Int))).set 1 (.int .i64 ((0 : Nat) : Int))).cells (by rfl)) (by rw [Hr.out]) (by rw [Hr.out]; exact strIn_nil _) (by rw [← Hg0.out]; exact (HB.out.setCell (p := ⟨g0, 0, none⟩) (Nat.le_refl _) _).setCell (p := ⟨g0, 1, none⟩) (Nat.le_refl _) _) rfl
        · obtain rfl : cb = false := Hcb.out.trans (decide_eq_false hbig)
          clear Hcb
          have hcell0 : wr.cell? ⟨sb, 0, none⟩ = some Lv := (HS.out.src.cell 0).trans rfl
          obtain ⟨x, c, hLv, hxc⟩ := row_form HS.out.row
          subst hLv
          have HXc := Lib.hid hxc
          have Hbig := Lib.hid hbig
          clear hxc hbig HQ5 HF5 HB5 HS5 Hia HPm HPe
          have hO0 : wr.ownsRow g0 5 1 (.slice none 0 0) ([] : List Int).length (bytesV []) := World.ownsRow_nil _ _ _ _
          have HO0 := Lib.hid hO0
          clear hO0
          go_wp2_with fail
          go_loopg [8, 10, 50] ps.length (fun g O _ vi wx => ∃ (j : Nat) (f : Nat × Nat) (outl : List Int), j + g = ps.length ∧ vi = .int .i64 j ∧ outl.length ≤ 1024 * j ∧ Hid (makeAll s.labels (s.fk, s.fl) (s.lines.take j) [] = (f, outl)) ∧ Hid (SrcAt wx g0 sb mb { s with fk := f.1, fl := f.2 } (.slice x ps.length c) ps) ∧ Hid (wx.ownsRow g0 5 1 O outl.length (bytesV outl)) ∧ Hid (Blk wx g0 #[.int .i64 0, .int .i64 0] 30) ∧ Hid (Below g0 w wx))
          case atStart => exact ⟨0, (s.fk, s.fl), [], by omega, rfl, by simp, rfl, HS, HO0, HF, HB⟩
          case round =>
            rename World => w7
            obtain ⟨j, f, outl, hj7, rfl, hol, HR7, HS7, HO7, HF7, HB7⟩ := hrel
            by_cases hlt7 : j < ps.length
            · have hlt' : (j : Int) < ps.length := by omega
              obtain ⟨⟨al, A⟩, hp⟩ : ∃ p, ps[j]? = some p := ⟨_, List.getElem?_eq_getElem hlt7⟩
              obtain ⟨g, rfl, hcell⟩ : ∃ g, x = some ⟨g, 0, none⟩ ∧ ∀ k, k < 5 → w7.cell? ⟨g, j * 5 + k, none⟩ = (lineC al A)[k]? := by
                obtain ⟨x', c', e, h⟩ := row_form HS7.out.row
                cases e
                rcases h with h | ⟨g, rfl, h⟩
                · omega
                · refine ⟨g, rfl, fun k hk => ?_⟩
                  obtain ⟨u, hu⟩ : ∃ u, (lineC al A)[k]? = some u := ⟨(lineC al A)[k]'hk, Array.getElem?_eq_getElem hk⟩
                  rw [hu]
                  exact h _ _ (by rw [rowC_get hp k hk]; exact hu)
              have hmem := List.mem_of_getElem? hp
              obtain ⟨⟨xa, ca, hA, _⟩, _⟩ := HS7.out.args _ hmem
              simp only at hA
              subst hA
              have hd0 : w7.cell? ⟨g, j * 5, none⟩ = some (.int .i64 al.n) := hcell 0 (by omega)
              have hd1 : w7.cell? ⟨g, j * 5 + 1, none⟩ = some (S al.word) := hcell 1 (by omega)
              have hd2 : w7.cell? ⟨g, j * 5 + 2, none⟩ = some (.slice xa al.args.length ca) := hcell 2 (by omega)
              have hd3 : w7.cell? ⟨g, j * 5 + 3, none⟩ = some (.int .i64 al.at_) := hcell 3 (by omega)
              have hd4 : w7.cell? ⟨g, j * 5 + 4, none⟩ = some (.int .i64 al.len) := hcell 4 (by omega)
              have Hal : Hid (s.lines[j]? = some al) := by show _ = _; rw [← HS.out.eq, List.getElem?_map, hp]; rfl
              have HRt := Lib.hid (makeAll_take (labels := s.labels) (s.fk, s.fl) Hal.out)
              rw [HR7.out] at HRt
              have Hok := Lib.hid (HS7.out.ok _ hmem)
              have HS8 := Lib.hid (HS7.out.free ((Kept.refl (fun _ => False) w7).alloc (.cells (lineC al (.slice xa al.args.length ca)) 77)))
              have HO8 := Lib.hid (row_kept HO7.out ((Kept.refl (fun _ => False) w7).alloc (.cells (lineC al (.slice xa al.args.length ca)) 77)) (fun _ _ h => h))
              have HF8 : Hid (Blk (w7.alloc (.cells (lineC al (.slice xa al.args.length ca)) 77)) g0 #[.int .i64 0, .int .i64 0] 30) := HF7.out.alloc _
              have HB8 : Hid (Below g0 w (w7.alloc (.cells (lineC al (.slice xa al.args.length ca)) 77))) := HB7.out.alloc (by have := HB7.out.size; have := Hg0.out; omega) _
              have hN8 := Blk.new w7 (lineC al (.slice xa al.args.length ca)) 77
              have hc2 : (w7.alloc (.cells #[.int .i64 al.n, S al.word, .slice xa al.args.length ca, .int .i64 al.at_, .int .i64 al.len] 77)).cell? ⟨sb, 2, none⟩ = some (.int .i64 f.1) := (HS8.out.src.cell 2).trans rfl
              have HA8 := Lib.hid (HS8.out.args _ hmem)
              clear hp hcell
              by_cases hf : f.1 = 0
              · have hf' : (f.1 : Int) = 0 := by omega
                have hfb : ((f.1 : Int) == 0) = true := by rw [hf']; rfl
                have hl0 : (w7.alloc (.cells #[.int .i64 al.n, S al.word, .slice xa al.args.length ca, .int .i64 al.at_, .int .i64 al.len] 77)).cell? ⟨w7.heap.size, 0, none⟩ = some (.int .i64 al.n) := (hN8.cell 0).trans rfl
                have hl1 : (w7.alloc (.cells #[.int .i64 al.n, S al.word, .slice xa al.args.length ca, .int .i64 al.at_, .int .i64 al.len] 77)).cell? ⟨w7.heap.size, 1, none⟩ = some (S al.word) := (hN8.cell 1).trans rfl
                have hl2 : (w7.alloc (.cells #[.int .i64 al.n, S al.word, .slice xa al.args.length ca, .int .i64 al.at_, .int .i64 al.len] 77)).cell? ⟨w7.heap.size, 2, none⟩ = some (.slice xa al.args.length ca) := (hN8.cell 2).trans rfl
                have hl3 : (w7.alloc (.cells #[.int .i64 al.n, S al.word, .slice xa al.args.length ca, .int .i64 al.at_, .int .i64 al.len] 77)).cell? ⟨w7.heap.size, 3, none⟩ = some (.int .i64 al.at_) := (hN8.cell 3).trans rfl
                have hl4 : (w7.alloc (.cells #[.int .i64 al.n, S al.word, .slice xa al.args.length ca, .int .i64 al.at_, .int .i64 al.len] 77)).cell? ⟨w7.heap.size, 4, none⟩ = some (.int .i64 al.len) := (hN8.cell 4).trans rfl
                have Hf0 := Lib.hid hf
                clear hN8 hf
                go_wp2_with fail
                have hmk := make_any sb mb _ s.labels f al _ Hok.out.word Hok.out.args Hok.out.at_ Hok.out.len HS8.out.lab _ g0 HS8.out.has HS8.out.src HS8.out.mp HA8.out.1 hsm hgs
                refine hmk.mono ?_
                rintro e w9 ⟨v9, rfl, hv9, hS9, hK9⟩
                have hml := makeA_len s.labels f al Hok.out.len
                obtain ⟨q, hq⟩ : ∃ q, makeA s.labels f al = q := ⟨_, rfl⟩
                rw [hq] at hv9 hS9 HRt hml
                have HR9 : Hid (makeAll s.labels (s.fk, s.fl) (s.lines.take (j + 1)) [] = (q.1, outl ++ q.2)) := by show _ = _; rw [HRt.out, if_pos Hf0.out]
                have HS9 := Lib.hid (HS8.out.fault hsm hgs hS9 hK9)
                have hO9 := row_kept HO8.out hK9 (fun b hb e => by
                  obtain ⟨cur, hh, _⟩ := row_type HO8.out hb
                  have := HS8.out.src
                  unfold Blk at this
                  rw [e, this] at hh
                  simp at hh)
                have HF9 := Lib.hid (HF8.out.below' hK9 (by obtain ⟨n1, n2, n3⟩ := Hnm.out; omega))
                have hsz8 := HB8.out.size
                have HB9 : Hid (Below g0 w _) := HB8.out.trans (hK9.below (by have := Hg0.out; omega) (fun b hb e => by obtain ⟨n1, n2, n3⟩ := Hnm.out; omega))
                have hsz9 : g0 ≤ w9.heap.size := by have := HB9.out.size; have := Hg0.out; omega
                have hw1 : IntKind.i64.wrap ((j : Int) + 1) = (j : Int) + 1 := IntWalk.i64_in _ (by omega)
                clear hS9 hK9 hmk hq hl0 hl1 hl2 hl3 hl4 hc2 hd0 hd1 hd2 hd3 hd4 hsz8
                go_wp2_with (refine wpList_append_strIn rfl (.tmp 60) (.tmp 63) (by rfl) g0 _ _ outl q.2 (by simp [Act.eval]) (by simp [Act.eval]) hO9 hv9 (by omega) hsz9 ?_; intro v10 w10 hO10 hg10)
                have HT : Hid (∀ b, u8.ownBlock = some b → g0 ≤ b ∧ ∃ cur, w9.heap[b]? = some (.cells cur 5 (0, 0))) := fun b hb => by
                  obtain ⟨cur, hh, h9⟩ := row_type hO9 hb
                  exact ⟨h9, cur, hh⟩
                have HS10 := Lib.hid (HS9.out.bytes (kept_grown hg10) HT.out)
                have HF10 : Hid (Blk w10 g0 #[.int .i64 0, .int .i64 0] 30) := HF9.out.below' (kept_grown hg10) (fun e => by
                  obtain ⟨_, cur, hh⟩ := HT.out _ e
                  have := HF9.out
                  unfold Blk at this
                  rw [this] at hh
                  simp at hh)
                have HB10 : Hid (Below g0 w w10) := HB9.out.trans ((kept_grown hg10).below (by omega) (fun b hb e => by have := (HT.out _ e).1; omega))
                have HO10 := Lib.hid hO10
                clear hO10 hg10 hO9 hv9
                go_wp2_with fail
                go_roundg (ps.length - (j + 1))
                case measure => omega
                case rel => exact ⟨j + 1, q.1, outl ++ q.2, by omega, by go_num, by simp; omega, HR9, HS10, HO10, HF10, HB10⟩
              · have hf' : ¬ ((f.1 : Int) = 0) := by omega
                have hfb : ((f.1 : Int) == 0) = false := by simpa using hf'
                have HR9 : Hid (makeAll s.labels (s.fk, s.fl) (s.lines.take (j + 1)) [] = (f, outl)) := by show _ = _; rw [HRt.out, if_neg hf]
                have hw1 : IntKind.i64.wrap ((j : Int) + 1) = (j : Int) + 1 := IntWalk.i64_in _ (by omega)
                clear hN8 hf
                go_wp2_with fail
                go_roundg (ps.length - (j + 1))
                case measure => omega
                case rel => exact ⟨j + 1, f, outl, by omega, by go_num, by omega, HR9, HS8, HO8, HF8, HB8⟩
            · obtain rfl : j = ps.length := by omega
              have HM : Hid (makeAll s.labels (s.fk, s.fl) s.lines [] = (f, outl)) := by
                have h1 : s.lines.length = ps.length := by rw [← HS.out.eq, List.length_map]
                have h2 := HR7.out
                rw [← h1, List.take_length] at h2
                exact h2
              have Hr : Hid (assemble text = if f.1 ≠ 0 then ([], f) else (outl, 0, 0)) := by
                show _ = _
                unfold assemble
                rw [if_neg (by omega), HP.out, HR2.out]
                dsimp only
                rw [if_neg Hbig.out, HM.out]
              have hk2 : w7.cell? ⟨sb, 2, none⟩ = some (.int .i64 f.1) := (HS7.out.src.cell 2).trans rfl
              have hk3 : w7.cell? ⟨sb, 3, none⟩ = some (.int .i64 f.2) := (HS7.out.src.cell 3).trans rfl
              have hc0 : w7.cell? ⟨g0, 0, none⟩ = some (.int .i64 0) := (HF7.out.cell 0).trans rfl
              have hc1 : w7.cell? ⟨g0, 1, none⟩ = some (.int .i64 0) := (HF7.out.cell 1).trans rfl
              have hz0 : w7.frozen? ⟨g0, 0, none⟩ = false := HF7.out.free 0
              have hz1 : w7.frozen? ⟨g0, 1, none⟩ = false := HF7.out.free 1
              by_cases hf : f.1 = 0
              · have hf' : (f.1 : Int) = 0 := by omega
                have hfb : ((f.1 : Int) == 0) = true := by rw [hf']; rfl
                have Hr2 : Hid (assemble text = (outl, 0, 0)) := by show _ = _; rw [Hr.out, if_neg (by omega)]
                clear hf
                go_wp2_with fail
                refine asm_end rfl rfl rfl (((HF7.out.set 0 (.int .i64 ((0 : Nat) : Int))).set 1 (.int .i64 ((0 : Nat) : Int))).cells (by rfl)) (by rw [Hr2.out]) ?_ (by rw [← Hg0.out]; exact (HB7.out.setCell (p := ⟨g0, 0, none⟩) (Nat.le_refl _) _).setCell (p := ⟨g0, 1, none⟩) (Nat.le_refl _) _) rfl
                rw [Hr2.out]
                exact own_str (base := g0) (E := 5) (row_kept HO7.out (((Kept.refl (· = g0) w7).setIn g0 0 _ rfl).setIn g0 1 _ rfl) (fun b hb e => by
                  obtain ⟨cur, hh, _⟩ := row_type HO7.out hb
                  have := HF7.out
                  unfold Blk at this
                  rw [e, this] at hh
                  simp at hh))
              · have hf' : ¬ ((f.1 : Int) = 0) := by omega
                have hfb : ((f.1 : Int) == 0) = false := by simpa using hf'
                have Hr2 : Hid (assemble text = ([], f.1, f.2)) := by show _ = _; rw [Hr.out, if_pos hf]
                clear hf
                go_upto_region 20 with fail
                go_region
                all_goals
                  go_wp2_with fail
                  refine asm_end rfl rfl rfl ((((HF7.out.set 0 (.int .i64 (f.1 : Int))).set 1 (.int .i64 (f.2 : Int))).cells (by rfl)).drew) (by rw [Hr2.out]) ?_ (by rw [← Hg0.out]; exact ((HB7.out.setCell (p := ⟨g0, 0, none⟩) (Nat.le_refl _) _).setCell (p := ⟨g0, 1, none⟩) (Nat.le_refl _) _).drew) rfl
                  rw [Hr2.out]
                  exact strIn_nil _
end Go.Proofs.YtjjnidbggoaonaaGreatDoor
