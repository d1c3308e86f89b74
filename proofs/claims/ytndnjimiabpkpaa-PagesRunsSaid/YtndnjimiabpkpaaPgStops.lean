/- The walk of PagesStops: who goes over pages may stop; what is no page. -/
import Derived.Test.YtndnjimiabpkpaaPgSeq
import Derived.Deep.LoopGhost
import Derived.Deep.DeepCutAuto
namespace Go.Proofs.Ytndnjimiabpkpaa
open Go.RowKit Go.Shelf
attribute [local irreducible] World.setCell World.alloc World.drew World.setRow Calls Code.wp row
attribute [local go_sem] Oper.semAt_some

theorem run_makeMapIB (w : World) : (Instr.makeMap 28 none).run Try.prog w = .ok (.map (some w.heap.size)) (w.alloc (.map #[] 0)) := by kernel_rfl
/-- A map has just the pages that lead somewhere. -/
def Keyed (es : List (Int × Value)) (F : Nat → Int) : Prop := (∀ q ∈ es, ∃ p : Nat, p < 4096 ∧ q.1 = (p : Int) ∧ F p ≠ 0) ∧ ∀ p : Nat, p < 4096 → F p ≠ 0 → ∃ q ∈ es, q.1 = (p : Int)
theorem Keyed.nil : Keyed [] noF := ⟨fun q hq => by simp at hq, fun p _ h => absurd rfl h⟩
theorem put_mem (es : List (Int × Value)) (k : Int) (v : Value) : (k, v) ∈ put es k v := by
  unfold put
  split
  · rename_i h
    cases hl : look es k with
    | none => rw [hl] at h; simp at h
    | some u => exact List.mem_map.2 ⟨(k, u), look_some hl, by simp⟩
  · simp
theorem put_old {es : List (Int × Value)} {k : Int} {v : Value} {q : Int × Value} (h : q ∈ es) (hk : q.1 ≠ k) : q ∈ put es k v := by
  unfold put
  split
  · exact List.mem_map.2 ⟨q, h, by rw [if_neg hk]⟩
  · exact List.mem_append.2 (.inl h)
theorem Keyed.put {es : List (Int × Value)} {F : Nat → Int} (h : Keyed es F) (p : Nat) (hp : p < 4096) (f : Int) (hf : f ≠ 0) (v : Value) : Keyed (put es p v) (updI F p f) := by
  refine ⟨fun q hq => ?_, fun q hq hF => ?_⟩
  · rcases mem_put hq with rfl | ⟨h1, h2⟩
    · exact ⟨p, hp, rfl, by rw [updI_same]; exact hf⟩
    · obtain ⟨p', h3, h4, h5⟩ := h.1 q h1
      exact ⟨p', h3, h4, by rw [updI_other _ _ _ _ (fun e => h2 (by rw [h4, e]))]; exact h5⟩
  · by_cases e : q = p
    · subst e; exact ⟨_, put_mem es q v, rfl⟩
    · rw [updI_other _ _ _ _ e] at hF
      obtain ⟨q', h1, h2⟩ := h.2 q hq hF
      exact ⟨q', put_old h1 (by rw [h2]; omega), h2⟩

set_option maxRecDepth 100000 in
set_option maxHeartbeats 8000000 in
theorem stops_walk (a0 : Option Addr) (len cap : Nat) (zs : List Int) (stop va : Int) (w : World) (hr : IsRow .i64 w a0 len cap zs) (hst : (Lit.int .i64 stop).wf = true) (hva : (Lit.int .i64 va).wf = true) :
    Calls Try.prog 13 #[.slice a0 len cap, .int .i64 stop, .int .i64 va] w fun e w' => e = .returned (.bool true) ∧ Below w.heap.size w w' := by
  obtain ⟨b, off, xs, hix, hcell, hblt, hmax, hwf⟩ := row_open (P := Try.prog) (T := 22) Try.underlying22 (fun w => by kernel_rfl) hr
  have hmax : len ≤ 9223372036854775807 := by unfold maxLen at hmax; omega
  have hva := wf_i64 hva; have hst := wf_i64 hst
  have Hix := Lib.hid hix; have Hcell := Lib.hid hcell; have Hblt := Lib.hid hblt; have Hwf := Lib.hid hwf
  clear hix hcell hblt hwf hr
  refine calls_of_wp_marks Try.func13 rfl ?_
  simp only [Try.ntmps13, List.size_toArray, List.length_cons, List.length_nil, Nat.reduceAdd, Nat.reduceSub, Array.replicate_succ, Array.replicate_zero, List.push_toArray, List.append_toArray, List.nil_append, List.cons_append]
  go_wp2_with fail
  refine (fit07_any _).mono ?_
  rintro e w1 ⟨rfl, hb1⟩
  obtain ⟨sb, hsb⟩ : ∃ sb, sb = w.heap.size := ⟨_, rfl⟩
  have hs1 : Blk w1 sb #[.int .i64 stop] 3 := by rw [hsb]; exact (Blk.new w #[.int .i64 stop] 3).below hb1 (by simp)
  have HS1 := Lib.hid hs1
  have Hb1 : Hid (Below w.heap.size w w1) := ((Below.refl _ _).alloc (Nat.le_refl _) _).trans (hb1.mono (by simp))
  have hsz : sb < w1.heap.size := hs1.lt
  rw [← hsb]
  have Hsb := Lib.hid hsb
  have hsbw : w.heap.size ≤ sb := by omega
  clear hb1 hs1 hsb
  by_cases hlen : 30 < len
  · go_wp2_with fail
    exact marks_ret0 (v := .bool true) (by simp [results, Try.results13, go_sem]) ⟨rfl, Hb1.out⟩
  go_wp2_with fail
  refine (new_any 200 _ (by omega) (by omega)).mono ?_
  rintro e w2 ⟨pb, db, ob, rfl, hP, l1, l2, l3, hb2⟩
  have HP := Lib.hid hP
  have hps : sb < pb ∧ sb < db ∧ sb < ob := by refine ⟨?_, ?_, ?_⟩ <;> omega
  have HS2 := Lib.hid (HS1.out.below hb2 hsz)
  have Hb2 := Lib.hid (Hb1.out.trans (hb2.mono (by omega)))
  clear hb2 l1 l2 l3 hP
  have hl0 : (newPool 200).left = 200 := by
    unfold Pool.left newPool; decide +kernel
  obtain ⟨r, hra, ra1, ra2, hTa, hMa, hLa, hCa⟩ := Tab.begin (newPool 200) 1 (by omega) (by omega)
  have Hra := Lib.hid hra; have HTa := Lib.hid hTa; have HLa := Lib.hid (show ((newPool 200).alloc 1).left = 199 by omega)
  clear hra hTa hMa hLa hCa ra1 ra2 hl0
  go_wp2_with fail
  refine (alloc_any pb db ob (newPool 200) 1 _ HP.out).mono ?_
  rintro e w3 ⟨rfl, hP3, hK3⟩
  have HP3 := Lib.hid hP3
  have HS3 := Lib.hid (hK3.blk HS2.out (by rintro (e | e | e) <;> omega))
  have Hb3 : Hid (Below w.heap.size w w3) := Hb2.out.trans (hK3.below (B := w.heap.size) (by have := Hb2.out.size; exact this) (fun k hk e => by rcases e with e | e | e <;> omega))
  clear hP3 hK3
  rw [Hra.out]
  have hmm := run_makeMapIB
  go_wp2_with fail
  obtain ⟨rm, hrm⟩ : ∃ rm, rm = w3.heap.size := ⟨_, rfl⟩
  obtain ⟨w4, hw4⟩ : ∃ w4 : World, w4 = w3.alloc (.map #[] 0) := ⟨_, rfl⟩
  rw [← hrm, ← hw4]
  have hlow : pb < rm ∧ db < rm ∧ ob < rm := by rw [hrm]; exact ⟨HP3.out.hp.lt, HP3.out.hd.lt, HP3.out.ho.lt⟩
  have HP4 : Hid (PoolAt w4 pb db ob ((newPool 200).alloc 1)) := by rw [hw4]; exact HP3.out.alloc _
  have HS4 : Hid (Blk w4 sb #[.int .i64 stop] 3) := by rw [hw4]; exact HS3.out.alloc _
  have HM4 : Hid (MapAt w4 rm []) := by rw [hw4, hrm]; exact MapAt.new _
  have Hb4 : Hid (Below w.heap.size w w4) := by rw [hw4]; exact Hb3.out.alloc Hb3.out.size _
  clear hw4 hrm hmm HP HS1 HS2 Hb2 HP3 HS3 Hb3 Hb1
  go_loopg [38] len (fun g i wx => ∃ (j : Nat) (N F : Nat → Int) (Y : Nat → Bool) (es : List (Int × Value)) (P : Pool), j + g = len ∧ i = .int .i64 j ∧ PoolAt wx pb db ob P ∧ Tab P r 1 N F Y ∧ MapAt wx rm es ∧ Keyed es F ∧ 199 ≤ P.left + 3 * j ∧ Blk wx sb #[.int .i64 stop] 3 ∧ Below w.heap.size w wx)
  case atStart => exact ⟨0, _, _, _, _, _, by omega, rfl, HP4.out, HTa.out, HM4.out, Keyed.nil, by have := HLa.out; omega, HS4.out, Hb4.out⟩
  case round =>
    clear HP4 HTa HM4 HLa HS4 Hb4
    obtain ⟨j, N, F, Y, es, P, hj, rfl, hP, hT, hM, hKy, hl, hS, hb⟩ := hrel
    have HP := Lib.hid hP; have HT := Lib.hid hT; have HM := Lib.hid hM; have HKy := Lib.hid hKy; have HS := Lib.hid hS; have Hb := Lib.hid hb
    have hbz := hb.size
    clear hP hT hM hKy hS hb
    by_cases hlt : j < len
    · have hix := Hix.out j hlt
      have hcl := Hcell.out j hlt
      have hbl := Hblt.out (by omega)
      rw [← Hb.out.cell (p := ⟨b, off + j, none⟩) hbl] at hcl
      obtain ⟨x, hx⟩ : ∃ x, xs j = x := ⟨_, rfl⟩
      have hxw := Hwf.out j
      rw [hx] at hcl hxw
      have hxw := wf_i64 hxw
      obtain ⟨q0, q1⟩ := tmod_bd x 4096 (by omega)
      obtain ⟨p, hp, hp2⟩ : ∃ p : Nat, (x.tmod 4096 + 4096) % 4096 = (p : Int) ∧ p < 4096 := ⟨((x.tmod 4096 + 4096) % 4096).toNat, by omega, by omega⟩
      have hp' : x.tmod 4096 % 4096 = (p : Int) := by omega
      have hn3 := needT_le N p
      clear hx
      go_wp2_with fail
      refine (fill_yes pb db ob P r 1 N F Y p 7 3 true _ HP.out HT.out hp2 (by omega) (by omega) (by omega) (by omega)).mono ?_
      rintro e w6 ⟨rfl, P6, N6, hF6⟩
      have HF6 := Lib.hid hF6
      have hmk := HM.out.kept hF6.kept (by rintro (e | e | e) <;> omega)
      have HS6 := Lib.hid (hF6.kept.blk HS.out (by rintro (e | e | e) <;> omega))
      obtain ⟨w7, hup, hm7, hK7⟩ := hmk.run_update (P := Try.prog) Try.underlying28 Try.underlying3 (p : Int) (.bool true)
      have hB6 : Below w.heap.size w w6 := Hb.out.trans (hF6.kept.below (B := w.heap.size) hbz (fun i hi e => by rcases e with e | e | e <;> omega))
      have hB7 : Below w.heap.size w w7 := hB6.trans (hK7.below (B := w.heap.size) hB6.size (fun i hi e => by omega))
      have HB7 := Lib.hid hB7
      have HP7 := Lib.hid (hF6.pool.kept hK7 (show ¬ pb = rm by omega) (show ¬ db = rm by omega) (show ¬ ob = rm by omega))
      have HM7 := Lib.hid hm7
      have HS7 := Lib.hid (hK7.blk HS6.out (show ¬ sb = rm by omega))
      have hlf := hF6.left
      clear hF6 hmk hm7 hK7 hB6 hB7
      generalize needT N p = nt at *
      go_wp2_with fail
      go_roundg (len - (j + 1))
      case measure => omega
      case rel => exact ⟨j + 1, N6, _, _, _, P6, by omega, by go_num, HP7.out, HF6.out.tab, HM7.out, HKy.out.put p hp2 7 (by omega) _, by omega, HS7.out, HB7.out⟩
    · obtain rfl : j = len := by omega
      have hel := fun w => each_made pb r w
      have Hel := Lib.hid hel; clear hel
      go_wp2_with fail
      refine (Hel.out _).mono ?_
      rintro e w6 ⟨rfl, rfl⟩
      go_wp2_with fail
      obtain ⟨nb, hnb⟩ : ∃ nb, nb = wr.heap.size := ⟨_, rfl⟩
      obtain ⟨w8, hw8⟩ : ∃ w8 : World, w8 = ((wr.alloc (.cells #[.int .i64 0] 3)).alloc (.cells #[.pointer (some ⟨pb, 0, none⟩)] 24)).alloc (.cells #[.int .i64 r] 3) := ⟨_, rfl⟩
      have hz8 : w8.heap.size = nb + 3 := by rw [hw8, hnb]; simp
      have hlow2 : pb < nb ∧ db < nb ∧ ob < nb ∧ rm < nb ∧ sb < nb := by rw [hnb]; exact ⟨HP.out.hp.lt, HP.out.hd.lt, HP.out.ho.lt, HM.out.lt, HS.out.lt⟩
      have HP8 : Hid (PoolAt w8 pb db ob P) := by rw [hw8]; exact ((HP.out.alloc _).alloc _).alloc _
      have HM8 : Hid (MapAt w8 rm es) := by rw [hw8]; exact ((HM.out.alloc _).alloc _).alloc _
      have HS8 : Hid (Blk w8 sb #[.int .i64 stop] 3) := by rw [hw8]; exact ((HS.out.alloc _).alloc _).alloc _
      have HN8 : Hid (Blk w8 nb #[.int .i64 0] 3) := by rw [hw8, hnb]; exact ((Blk.new _ _ _).alloc _).alloc _
      have HB1 : Hid (Blk w8 (nb + 1) #[.pointer (some ⟨pb, 0, none⟩)] 24) := by rw [hw8, hnb]; exact (blk_new_at _ _ _ _ (by simp)).alloc _
      have HB2 : Hid (Blk w8 (nb + 1 + 1) #[.int .i64 r] 3) := by rw [hw8, hnb]; exact blk_new_at _ _ _ _ (by simp)
      have Hb8 : Hid (Below w.heap.size w w8) := by rw [hw8]; exact ((Hb.out.alloc hbz _).alloc (by simp; omega) _).alloc (by simp; omega) _
      have Hwnb : Hid (w.heap.size ≤ nb) := by rw [hnb]; exact hbz
      rw [← hw8]
      try simp only [World.size_alloc]
      rw [← hnb]
      clear hw8 hnb HP HM HS Hb hbz
      have hseq := each_stops pb db ob P r 1 N F Y HT.out 4 (nb + 1) (nb + 1 + 1) nb w8 HP8.out ⟨hlow2.1, hlow2.2.1, hlow2.2.2.1⟩ (by omega) (HB1.out.cell 0) (HB2.out.cell 0) (by omega)
      have hcnt := count_like HM8.out.nd HKy.out.1 HKy.out.2
      obtain ⟨Lp, hLp⟩ : ∃ Lp, pgs F 0 4096 = Lp := ⟨_, rfl⟩
      rw [hLp] at hseq hcnt
      have Hcnt := Lib.hid hcnt
      have hlm : es.length ≤ 4096 := by
        have h1 := pgs_len F 0 4096
        rw [hLp] at h1; omega
      clear hLp hcnt
      refine (wpIn_wide (n := 5)).1 ?_
      refine' wpIn_rangeFunc_ownF (F := Fence.wide) (n := 5) rfl (by omega) (gf := 60) (lb := #[.pointer (some ⟨nb + 1, 0, none⟩), .pointer (some ⟨nb + 1 + 1, 0, none⟩)]) rfl trivial (enters_of Try.func60 (by kernel_rfl) rfl)
        hseq (fun h k => h.trans k) (belowK_b (by omega)) (Below.refl _ _) (fun _ => rfl)
        (fun pre W => (W.cell? ⟨nb, 0, none⟩ = some (.int .i64 pre.length) ∧ W.frozen? ⟨nb, 0, none⟩ = false) ∧ Below nb w8 W)
        (fun c pre W => (c = .exit 2 ∧ W.cell? ⟨nb, 0, none⟩ = some (.int .i64 stop) ∧ W.frozen? ⟨nb, 0, none⟩ = false) ∧ Below nb w8 W)
        (OwnFrom.and (Own.from (fun s A B row hs hg hr => ⟨cell_kept hs.1 hg hr, (frozen_kept hs.1 hg hr).trans hs.2⟩) _) (ownFrom_below (by omega) (by omega)))
        (fun c => OwnFrom.and (Own.from (fun s A B row hs hg hr => ⟨hs.1, cell_kept hs.2.1 hg hr, (frozen_kept hs.2.1 hg hr).trans hs.2.2⟩) _) (ownFrom_below (by omega) (by omega)))
        ⟨⟨HN8.out.cell 0, HN8.out.free 0⟩, Below.refl _ _⟩ _ ?assign ?body ?done ?stop
      case assign =>
        intro l x W K hK
        gi_wp2
        exact hK
      case body =>
        rintro l pre x W ⟨⟨hc, hf⟩, hB⟩ hlt
        have hsc : W.cell? ⟨sb, 0, none⟩ = some (.int .i64 stop) := (HS8.out.below hB (by omega)).cell 0
        have hpl : pre.length ≤ 4096 := by have := Hcnt.out; omega
        have HB := Lib.hid hB
        have Hf := Lib.hid hf
        have hnn : pre.length = (pre ++ [x]).length - 1 := by simp
        clear hB hseq hnn
        by_cases hs : (pre.length : Int) = stop
        · have Hs := Lib.hid hs
          have hbb : ((pre.length : Int) == stop) = true := by simpa using hs
          clear hs
          gi_wp2
          exact ⟨KeepsOthers.refl _, ⟨rfl, by rw [← Hs.out]; exact hc, Hf.out⟩, HB.out⟩
        · have hbb : ((pre.length : Int) == stop) = false := by simpa using hs
          clear hs
          gi_wp2
          refine ⟨KeepsOthers.setCell _ _ _, (Below.refl nb W).setCell (p := ⟨nb, 0, none⟩) (Nat.le_refl _) _, ⟨?_, by rw [World.frozen?_setCell]; exact Hf.out⟩, HB.out.setCell (p := ⟨nb, 0, none⟩) (Nat.le_refl _) _⟩
          rw [World.cell?_setCell_same' _ _ _ (by rw [hc]; rfl)]
          simp
      case done =>
        rintro D ys W hD hys ⟨⟨hc, hf⟩, hB⟩ hK
        have hyl : ys.length = es.length := by rw [hys, Hcnt.out]
        rw [hyl] at hc
        clear hys hyl hseq
        have HP := Lib.hid (RowKit.Below.pool hB ⟨hlow2.1, hlow2.2.1, hlow2.2.2.1⟩ HP8.out)
        have HM := Lib.hid (HM8.out.below hB (by omega))
        have HW : Hid (Below w.heap.size w W) := Hb8.out.trans (hB.mono Hwnb.out)
        have hln := HM.out.run_len (P := Try.prog) Try.underlying28
        have HD := Lib.hid hK
        have Hf := Lib.hid hf
        clear hB hK hf
        go_wp2_with fail
        obtain ⟨w9, hw9⟩ : ∃ w9 : World, w9 = W.alloc (.cells #[.int .i64 (-1), .int .i64 4096, .int .i64 (-9223372036854775808)] 3) := ⟨_, rfl⟩
        obtain ⟨tb, htb⟩ : ∃ tb, tb = W.heap.size := ⟨_, rfl⟩
        have HP9 : Hid (PoolAt w9 pb db ob P) := by rw [hw9]; exact HP.out.alloc _
        have HW9 : Hid (Below w.heap.size w w9) := by rw [hw9]; exact HW.out.alloc HW.out.size _
        have HD9 : Hid (w9.heap[D]? = some (.deferred (some []))) := by rw [hw9, Below.heap_alloc _ _ _ (Array.getElem?_eq_some_iff.1 HD.out).1]; exact HD.out
        have HT9 : Hid (Blk w9 tb #[.int .i64 (-1), .int .i64 4096, .int .i64 (-9223372036854775808)] 3) := by rw [hw9, htb]; exact Blk.new _ _ _
        rw [← hw9, ← htb]
        clear hw9 htb HP HW HD HM hln
        go_loopg [79] 3 (fun g i wx => ∃ k : Nat, k + g = 3 ∧ i = .int .i64 k ∧ wx = w9)
        case atStart => exact ⟨0, by omega, rfl, rfl⟩
        case round =>
          obtain ⟨k, hk, rfl, rfl⟩ := hrel
          by_cases hk3 : k < 3
          · have hk3' : (k : Int) < 3 := by omega
            obtain ⟨x, hx, hxb⟩ : ∃ x : Int, wr.cell? ⟨tb, k, none⟩ = some (.int .i64 x) ∧ (x < 0 ∨ 4096 ≤ x) := by
              obtain rfl | rfl | rfl : k = 0 ∨ k = 1 ∨ k = 2 := by omega
              · exact ⟨-1, HT9.out.cell 0, by omega⟩
              · exact ⟨4096, HT9.out.cell 1, by omega⟩
              · exact ⟨-9223372036854775808, HT9.out.cell 2, by omega⟩
            have Hxb := Lib.hid hxb
            clear hxb
            go_wp2_with fail
            refine (walk_bad pb r x _ Hxb.out).mono ?_
            rintro e w10 ⟨rfl, rfl⟩
            go_wp2_with fail
            refine (fill_bad pb db ob P r x 7 1 9 true _ HP9.out (Hxb.out.elim .inl (fun h => .inr (.inl h)))).mono ?_
            rintro e w10 ⟨rfl, rfl⟩
            go_wp2_with fail
            go_roundg (3 - (k + 1))
            case measure => omega
            case rel => exact ⟨k + 1, by omega, by go_num, rfl⟩
          · obtain rfl : k = 3 := by omega
            go_wp2_with fail
            refine (fill_bad pb db ob P r 1 0 1 9 true _ HP9.out (.inr (.inr (.inr (by omega))))).mono ?_
            rintro e w10 ⟨rfl, rfl⟩
            go_wp2_with fail
            refine (fill_bad pb db ob P 0 1 7 1 9 true _ HP9.out (.inr (.inr (.inl (by unfold Pool.owner; rw [if_neg (fun h => by have := (P.there_iff 0).1 h; omega)]))))).mono ?_
            rintro e w10 ⟨rfl, rfl⟩
            have hand := and262143 va
            obtain ⟨v1, hv1⟩ : ∃ v1, va % 262144 = v1 := ⟨_, rfl⟩
            rw [hv1] at hand
            have hv2 : 0 ≤ v1 ∧ v1 ≤ 262143 := by omega
            clear hv1
            obtain ⟨hv3, hv4⟩ := hv2
            go_wp2_with fail
            refine (page_any v1 _ hv3 hv4).mono ?_
            rintro e w10 ⟨rfl, rfl⟩
            go_wp2_with fail
            refine (offset_any v1 _ hv3 hv4).mono ?_
            rintro e w10 ⟨rfl, rfl⟩
            have hsum : v1 / 64 * 64 + v1 % 64 = v1 := by omega
            have hof : v1 % 64 < 64 := by omega
            go_wp2_with fail
            refine (offset_any v1 _ hv3 hv4).mono ?_
            rintro e w10 ⟨rfl, rfl⟩
            go_wp2_with fail
            exact marks_ret1 HD9.out (v := .bool true) (fun w => by simp [results, Try.results13, go_sem]) ⟨rfl, HW9.out.trans (belowK_b (w := w8) (by omega) _ D _ _ hD HD9.out rfl rfl)⟩
      case stop =>
        rintro D c pre W hD _ ⟨⟨rfl, hc, hf⟩, hB⟩ hK
        clear hseq
        have HP := Lib.hid (RowKit.Below.pool hB ⟨hlow2.1, hlow2.2.1, hlow2.2.2.1⟩ HP8.out)
        have HM := Lib.hid (HM8.out.below hB (by omega))
        have HW : Hid (Below w.heap.size w W) := Hb8.out.trans (hB.mono Hwnb.out)
        have hln := HM.out.run_len (P := Try.prog) Try.underlying28
        have HD := Lib.hid hK
        have Hf := Lib.hid hf
        have hsc : W.cell? ⟨sb, 0, none⟩ = some (.int .i64 stop) := (HS8.out.below hB (by omega)).cell 0
        clear hB hK hf
        refine wpIn_wide.2 ?_
        obtain ⟨bb, hbb⟩ : ∃ bb, (stop != (es.length : Int)) = bb := ⟨_, rfl⟩
        have hss : (stop != stop) = false := by simp
        cases bb
        all_goals
          go_wp2_with fail
          obtain ⟨w9, hw9⟩ : ∃ w9 : World, w9 = W.alloc (.cells #[.int .i64 (-1), .int .i64 4096, .int .i64 (-9223372036854775808)] 3) := ⟨_, rfl⟩
          obtain ⟨tb, htb⟩ : ∃ tb, tb = W.heap.size := ⟨_, rfl⟩
          have HP9 : Hid (PoolAt w9 pb db ob P) := by rw [hw9]; exact HP.out.alloc _
          have HW9 : Hid (Below w.heap.size w w9) := by rw [hw9]; exact HW.out.alloc HW.out.size _
          have HD9 : Hid (w9.heap[D]? = some (.deferred (some []))) := by rw [hw9, Below.heap_alloc _ _ _ (Array.getElem?_eq_some_iff.1 HD.out).1]; exact HD.out
          have HT9 : Hid (Blk w9 tb #[.int .i64 (-1), .int .i64 4096, .int .i64 (-9223372036854775808)] 3) := by rw [hw9, htb]; exact Blk.new _ _ _
          rw [← hw9, ← htb]
          clear hw9 htb HP HW HD HM hln
          go_loopg [79] 3 (fun g i wx => ∃ k : Nat, k + g = 3 ∧ i = .int .i64 k ∧ wx = w9)
          case atStart => exact ⟨0, by omega, rfl, rfl⟩
          case round =>
            obtain ⟨k, hk, rfl, rfl⟩ := hrel
            by_cases hk3 : k < 3
            · have hk3' : (k : Int) < 3 := by omega
              obtain ⟨x, hx, hxb⟩ : ∃ x : Int, wr.cell? ⟨tb, k, none⟩ = some (.int .i64 x) ∧ (x < 0 ∨ 4096 ≤ x) := by
                obtain rfl | rfl | rfl : k = 0 ∨ k = 1 ∨ k = 2 := by omega
                · exact ⟨-1, HT9.out.cell 0, by omega⟩
                · exact ⟨4096, HT9.out.cell 1, by omega⟩
                · exact ⟨-9223372036854775808, HT9.out.cell 2, by omega⟩
              have Hxb := Lib.hid hxb
              clear hxb
              go_wp2_with fail
              refine (walk_bad pb r x _ Hxb.out).mono ?_
              rintro e w10 ⟨rfl, rfl⟩
              go_wp2_with fail
              refine (fill_bad pb db ob P r x 7 1 9 true _ HP9.out (Hxb.out.elim .inl (fun h => .inr (.inl h)))).mono ?_
              rintro e w10 ⟨rfl, rfl⟩
              go_wp2_with fail
              go_roundg (3 - (k + 1))
              case measure => omega
              case rel => exact ⟨k + 1, by omega, by go_num, rfl⟩
            · obtain rfl : k = 3 := by omega
              go_wp2_with fail
              refine (fill_bad pb db ob P r 1 0 1 9 true _ HP9.out (.inr (.inr (.inr (by omega))))).mono ?_
              rintro e w10 ⟨rfl, rfl⟩
              go_wp2_with fail
              refine (fill_bad pb db ob P 0 1 7 1 9 true _ HP9.out (.inr (.inr (.inl (by unfold Pool.owner; rw [if_neg (fun h => by have := (P.there_iff 0).1 h; omega)]))))).mono ?_
              rintro e w10 ⟨rfl, rfl⟩
              have hand := and262143 va
              obtain ⟨v1, hv1⟩ : ∃ v1, va % 262144 = v1 := ⟨_, rfl⟩
              rw [hv1] at hand
              have hv2 : 0 ≤ v1 ∧ v1 ≤ 262143 := by omega
              clear hv1
              obtain ⟨hv3, hv4⟩ := hv2
              go_wp2_with fail
              refine (page_any v1 _ hv3 hv4).mono ?_
              rintro e w10 ⟨rfl, rfl⟩
              go_wp2_with fail
              refine (offset_any v1 _ hv3 hv4).mono ?_
              rintro e w10 ⟨rfl, rfl⟩
              have hsum : v1 / 64 * 64 + v1 % 64 = v1 := by omega
              have hof : v1 % 64 < 64 := by omega
              go_wp2_with fail
              refine (offset_any v1 _ hv3 hv4).mono ?_
              rintro e w10 ⟨rfl, rfl⟩
              go_wp2_with fail
              exact marks_ret1 HD9.out (v := .bool true) (fun w => by simp [results, Try.results13, go_sem]) ⟨rfl, HW9.out.trans (belowK_b (w := w8) (by omega) _ D _ _ hD HD9.out rfl rfl)⟩
end Go.Proofs.Ytndnjimiabpkpaa
