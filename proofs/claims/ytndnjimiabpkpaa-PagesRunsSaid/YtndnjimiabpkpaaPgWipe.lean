/- Wipe: no page leads to a frame any more. -/
import Derived.Test.YtndnjimiabpkpaaPgSeq
import Derived.RangeFuncBox
import Derived.Maps.AppendAt
import Derived.Deep.LoopGhost
namespace Go.Proofs.Ytndnjimiabpkpaa
open Go.RowKit Go.Shelf
attribute [local irreducible] World.setCell World.alloc World.drew World.setRow Calls Code.wp row
attribute [local go_sem] Oper.semAt_some

/-- The pages that lead to a frame. -/
def ofFr (f : Int) (l : List (Nat × Int)) : List Int := (l.filter fun q => q.2 == f).map fun q => (q.1 : Int)
theorem ofFr_hit (f : Int) (l : List (Nat × Int)) (x : Nat × Int) (h : x.2 = f) : ofFr f (l ++ [x]) = ofFr f l ++ [(x.1 : Int)] := by simp [ofFr, h]
theorem ofFr_miss (f : Int) (l : List (Nat × Int)) (x : Nat × Int) (h : x.2 ≠ f) : ofFr f (l ++ [x]) = ofFr f l := by simp [ofFr, h]
theorem ofFr_len (f : Int) (l : List (Nat × Int)) : (ofFr f l).length ≤ l.length := by simp only [ofFr, List.length_map]; exact List.length_filter_le _ _
theorem ofFr_nil (f : Int) : ofFr f [] = [] := rfl

def wipeF (F : Nat → Int) (f : Int) : Nat → Int := fun p => if F p = f then 0 else F p

theorem putObj_kept (w : World) (D : Nat) (o : Obj) : Kept (· = D) w (w.putObj D o) :=
  ⟨rfl, rfl, rfl, by simp [World.putObj], fun k _ h => World.putObj_heap_other h⟩
theorem ofFr_mem (F : Nat → Int) (f : Int) (hf : f ≠ 0) (n : Nat) (x : Int) : x ∈ ofFr f (pgs F 0 n) ↔ ∃ p : Nat, p < n ∧ x = (p : Int) ∧ F p = f := by
  unfold ofFr
  rw [List.mem_map]
  constructor
  · rintro ⟨q, hq, rfl⟩
    obtain ⟨h1, h2⟩ := List.mem_filter.1 hq
    obtain ⟨j, h3, rfl, h4⟩ := (pgs_mem F 0 n q).1 h1
    exact ⟨j, h3, by simp, by simpa using h2⟩
  · rintro ⟨p, h1, rfl, h2⟩
    exact ⟨(p, F p), List.mem_filter.2 ⟨(pgs_mem F 0 n _).2 ⟨p, h1, by simp, by simpa [h2] using hf⟩, by simpa using h2⟩, rfl⟩
def ListsN (F : Nat → Int) (f : Int) (n : Nat) (Ls : List Int) : Prop := (∀ j, j < Ls.length → ∃ p : Nat, p < n ∧ Ls.getD j 0 = (p : Int) ∧ F p = f) ∧ ∀ p : Nat, p < n → F p = f → ∃ j, j < Ls.length ∧ Ls.getD j 0 = (p : Int)
theorem ofFr_listsN (F : Nat → Int) (f : Int) (hf : f ≠ 0) (n : Nat) : ListsN F f n (ofFr f (pgs F 0 n)) := by
  refine ⟨fun j hj => ?_, fun p hp hF => ?_⟩
  · exact (ofFr_mem F f hf n _).1 (getD_mem hj)
  · obtain ⟨j, hj⟩ := List.getElem?_of_mem ((ofFr_mem F f hf n p).2 ⟨p, hp, rfl, hF⟩)
    have hl := (List.getElem?_eq_some_iff.1 hj).1
    exact ⟨j, hl, by simp [List.getD, hj]⟩

theorem own_ints {w : World} {base e : Nat} {v : Value} {Ls : List Int} (h : w.ownsRow base e 1 v Ls.length (Ls.map (Value.int .i64))) :
    ∃ A c, v = .slice A Ls.length c ∧ ∀ j, j < Ls.length → ∃ g, A = some ⟨g, 0, none⟩ ∧ base ≤ g ∧ g < w.heap.size ∧ w.cell? ⟨g, j, none⟩ = some (.int .i64 (Ls.getD j 0)) := by
  rcases h.2 with ⟨rfl, h0⟩ | ⟨g, gc, cur, rfl, hg, hgh, hgc, hgm, hcs, htk⟩
  · exact ⟨none, 0, by rw [h0], fun j hj => absurd hj (by omega)⟩
  · refine ⟨_, _, rfl, fun j hj => ⟨g, rfl, hg, (Array.getElem?_eq_some_iff.1 hgh).1, ?_⟩⟩
    rw [h.cellAt j (by omega)]
    simp [List.getD, hj]

set_option maxRecDepth 100000 in
set_option maxHeartbeats 4000000 in
theorem wipe_any (pb db ob : Nat) (P : Pool) (r o : Int) (N F : Nat → Int) (Y : Nat → Bool) (f : Int) (w : World) (hP : PoolAt w pb db ob P) (hT : Tab P r o N F Y) (hf : 1 ≤ f) (Lp : List (Nat × Int)) (hLp : pgs F 0 4096 = Lp) :
    Calls Try.prog 46 #[.pointer (some ⟨pb, 0, none⟩), .int .i64 r, .int .i64 f] w fun e w' =>
      e = .returned (.int .i64 (ofFr f Lp).length) ∧ ∃ P' F', PoolAt w' pb db ob P' ∧ Tab P' r o N F' Y ∧ (∀ p, p < 4096 → F' p = wipeF F f p) ∧ SegMv P P' o ∧ P'.left = P.left ∧ P'.O = P.O ∧ Kept (PS pb db ob) w w' := by
  have HP := Lib.hid hP; have HT := Lib.hid hT
  have hfn : f ≠ 0 := by omega
  have Hfn := Lib.hid hfn
  clear hfn
  obtain ⟨i0, hi, hz0, hz1, hz2⟩ := info_parts infoInt
  have Hi := Lib.hid hi; have Hz0 := Lib.hid hz0; have Hz1 := Lib.hid hz1; have Hz2 := Lib.hid hz2
  clear hP hT hi hz0 hz1 hz2
  refine calls_of_wp_marks Try.func46 rfl ?_
  simp only [Try.ntmps46, List.size_toArray, List.length_cons, List.length_nil, Nat.reduceAdd, Nat.reduceSub, Array.replicate_succ, Array.replicate_zero, List.push_toArray, List.append_toArray, List.nil_append, List.cons_append]
  have Hel := Lib.hid (fun w => each_made pb r w)
  go_wp2_with fail
  refine (Hel.out _).mono ?_
  rintro e w6 ⟨rfl, rfl⟩
  go_wp2_with fail
  obtain ⟨h0, hh0⟩ : ∃ h0, h0 = w.heap.size := ⟨_, rfl⟩
  obtain ⟨w8, hw8⟩ : ∃ w8 : World, w8 = (((w.alloc (.cells #[.int .i64 f] 3)).alloc (.cells #[.slice none 0 0] 22)).alloc (.cells #[.pointer (some ⟨pb, 0, none⟩)] 24)).alloc (.cells #[.int .i64 r] 3) := ⟨_, rfl⟩
  have hz8 : w8.heap.size = h0 + 4 := by rw [hw8, hh0]; simp
  have hlow : pb < h0 ∧ db < h0 ∧ ob < h0 := by rw [hh0]; exact ⟨HP.out.hp.lt, HP.out.hd.lt, HP.out.ho.lt⟩
  have HP8 : Hid (PoolAt w8 pb db ob P) := by rw [hw8]; exact (((HP.out.alloc _).alloc _).alloc _).alloc _
  have HF8 : Hid (Blk w8 h0 #[.int .i64 f] 3) := by rw [hw8, hh0]; exact (((Blk.new w _ _).alloc _).alloc _).alloc _
  have HL8 : Hid (Boxed w8 (h0 + 1) 22 (.slice none 0 0)) := by rw [hw8, hh0]; exact (((blk_new_at (w.alloc (.cells #[.int .i64 f] 3)) #[.slice none 0 0] 22 (w.heap.size + 1) (by simp)).alloc _).alloc _)
  have HB1 : Hid (Blk w8 (h0 + 1 + 1) #[.pointer (some ⟨pb, 0, none⟩)] 24) := by rw [hw8, hh0]; exact (blk_new_at _ _ _ _ (by simp)).alloc _
  have HB2 : Hid (Blk w8 (h0 + 1 + 1 + 1) #[.int .i64 r] 3) := by rw [hw8, hh0]; exact blk_new_at _ _ _ _ (by simp)
  have Hb8 : Hid (Below w.heap.size w w8) := by rw [hw8]; exact ((((Below.refl _ w).alloc (Nat.le_refl _) _).alloc (by simp) _).alloc (by simp; omega) _).alloc (by simp; omega) _
  rw [← hw8]
  try simp only [World.size_alloc]
  rw [← hh0] at Hb8 ⊢
  have Hh0 := Lib.hid hh0
  clear hw8 hh0
  have hseq := each_stops pb db ob P r o N F Y HT.out 4 (h0 + 1 + 1) (h0 + 1 + 1 + 1) (h0 + 1) w8 HP8.out ⟨by omega, by omega, by omega⟩ (by omega) (HB1.out.cell 0) (HB2.out.cell 0) (by omega)
  have hlsp := ofFr_listsN F f (by omega) 4096
  have hlen := pgs_len F 0 4096
  rw [hLp] at hseq hlsp hlen
  have Hlsp := Lib.hid hlsp
  clear hLp hlsp
  refine (wpIn_wide (n := 5)).1 ?_
  refine' wpIn_rangeFunc_ownF (F := Fence.wide) (n := 5) rfl (by omega) (gf := 60) (lb := #[.pointer (some ⟨h0 + 1 + 1, 0, none⟩), .pointer (some ⟨h0 + 1 + 1 + 1, 0, none⟩)]) rfl trivial (enters_of Try.func60 (by kernel_rfl) rfl)
    hseq (fun h k => h.trans k) (belowK_b (by omega)) (Below.refl _ _) (fun _ => rfl)
    (fun pre W => (∃ v, Boxed W (h0 + 1) 22 v ∧ W.ownsRow (h0 + 1) 3 1 v (ofFr f pre).length ((ofFr f pre).map (Value.int .i64)) ∧ True) ∧ Below (h0 + 1) w8 W)
    (fun _ _ _ => False)
    (OwnFrom.and (Own.from (holdsRow_own (h0 + 1) (h0 + 1) 22 3 1 (fun pre => (ofFr f pre).length) (fun pre => (ofFr f pre).map (Value.int .i64)) (fun _ _ => True)) _) (ownFrom_below (by omega) (by omega)))
    (fun _ _ _ _ _ hs _ _ => hs)
    ⟨⟨_, HL8.out, World.ownsRow_nil _ _ _ _, trivial⟩, Below.refl _ _⟩ _ ?assign ?body ?done ?stop
  case assign =>
    intro l x W K hK
    gi_wp2
    exact hK
  case body =>
    rintro l pre ⟨pg, fr⟩ W ⟨⟨v, hv, hrow, -⟩, hB⟩ hlt
    have hc := hv.cell
    have hfc : W.cell? ⟨h0, 0, none⟩ = some (.int .i64 f) := (HF8.out.below hB (by omega)).cell 0
    have hpl := ofFr_len f pre
    have HB := Lib.hid hB; have Hv := Lib.hid hv; have Hrow := Lib.hid hrow
    have hBz := hB.size
    clear hB hv hrow hseq
    by_cases hx : fr = f
    · have hbb : (fr == f) = true := by simpa using hx
      have Hx := Lib.hid hx
      have hown0 := Hrow.out
      generalize hnl : (ofFr f pre).length = nl at *
      have Hnl := Lib.hid hnl
      clear hx hnl
      gi_wp2_with (gi_at_builtin; refine wpListIn_append_own _ rfl _ _ 22 rfl (h0 + 1) 3 i0 (.int .i64 0) 1 8 Try.underlying22 Hi.out Hz0.out Hz1.out Hz2.out rfl (by decide) _ _ _ rfl (hown0.alloc _) ⟨W.heap.size, 0, none⟩ 1 1 [.int .i64 (pg : Int)] rfl rfl (cell_one_new _ _ _) (by simp [Value.oneCell']) (by unfold maxLen; omega) (by omega) (by simp; omega) ?_; intro v' w1 hown' hgrow _; obtain ⟨g', cap', rfl⟩ := ownsRow_succ hown'; obtain ⟨hv1, hv2, hr2, hk2, hb2⟩ := Hv.out.appended (by decide) hown0 (by omega) (Nat.le_refl _) hown' hgrow; have hc1 := hv1.cell; have hf1 := hv1.frozen)
      exact ⟨hk2, hb2, ⟨_, hv2, by rw [ofFr_hit f pre (pg, fr) Hx.out, List.length_append, Hnl.out, List.map_append]; exact hr2, trivial⟩, HB.out.trans hb2⟩
    · have hbb : (fr == f) = false := by simpa using hx
      have Hx := Lib.hid hx
      clear hx
      gi_wp2
      exact ⟨KeepsOthers.refl _, Below.refl _ _, ⟨v, Hv.out, by rw [ofFr_miss f pre (pg, fr) Hx.out]; exact Hrow.out, trivial⟩, HB.out⟩
  case stop =>
    rintro D c pre W hD _ h _
    exact h.elim
  case done =>
    rintro D ys W hD hys ⟨⟨v, hv, hrow, -⟩, hB⟩ hK
    rw [hys] at hrow
    clear hys hseq
    obtain ⟨A, c0, rfl, hA⟩ := own_ints hrow
    have HPW := Lib.hid (RowKit.Below.pool hB ⟨by omega, by omega, by omega⟩ HP8.out)
    have HBW := Lib.hid hB; have HD := Lib.hid hK; have HV := Lib.hid hv
    have HA := Lib.hid hA
    have hBz := hB.size
    have hDz := (Array.getElem?_eq_some_iff.1 hK).1
    have hvz := hv.cell
    obtain ⟨Ls, hLs⟩ : ∃ Ls, ofFr f Lp = Ls := ⟨_, rfl⟩
    rw [hLs] at HV HA Hlsp hvz
    have Hlse := Lib.hid hLs
    have hlsl : Ls.length ≤ 4096 := by rw [← hLs]; exact Nat.le_trans (ofFr_len f Lp) hlen
    clear hB hK hv hrow hA hLs HF8 HB1 HB2 HL8 hlen
    go_wp2_with fail
    go_loopg [11, 12, 13, 28] Ls.length (fun g _ _ _ i wx => ∃ (k : Nat) (P' : Pool) (F' : Nat → Int), k + g = Ls.length ∧ i = .int .i64 k ∧ PoolAt wx pb db ob P' ∧ Tab P' r o N F' Y ∧ (∀ p : Nat, p < 4096 → (∃ j, j < k ∧ Ls.getD j 0 = (p : Int)) → F' p = 0) ∧ (∀ p : Nat, p < 4096 → (¬ ∃ j, j < k ∧ Ls.getD j 0 = (p : Int)) → F' p = F p) ∧ SegMv P P' o ∧ P'.left = P.left ∧ P'.O = P.O ∧ Kept (PS pb db ob) W wx)
    case atStart => exact ⟨0, P, F, by omega, rfl, HPW.out, HT.out, fun p _ ⟨j, hj, _⟩ => absurd hj (by omega), fun _ _ _ => rfl, .refl _ _, rfl, rfl, .refl _ _⟩
    case round =>
      obtain ⟨k, P', F', hkg, rfl, hP', hT', hF0, hF1, hmv, hleft, hO, hkept⟩ := hrel
      have HP' := Lib.hid hP'; have HT' := Lib.hid hT'; have HF0 := Lib.hid hF0; have HF1 := Lib.hid hF1; have Hmv := Lib.hid hmv; have Hleft := Lib.hid hleft; have HO := Lib.hid hO; have Hkept := Lib.hid hkept
      have hkz := hkept.size
      clear hP' hT' hF0 hF1 hmv hleft hO hkept
      by_cases hlt : k < Ls.length
      · obtain ⟨g, rfl, hg1, hg2, hcg⟩ := HA.out k hlt
        obtain ⟨p, hp, hpe, hFp⟩ := Hlsp.out.1 k hlt
        rw [hpe] at hcg
        have hcg' : wr.cell? ⟨g, k, none⟩ = some (.int .i64 p) := by rw [← hcg]; exact World.cell?_of_block (Hkept.out.block g hg2 (by rintro (e | e | e) <;> omega))
        have hNp : ∀ l, l ≤ 3 → N (nd p l) ≠ 0 := fun l hl => HT.out.way p hp (by rw [hFp]; exact Hfn.out) l hl
        have HNp := Lib.hid hNp
        have Hpe := Lib.hid hpe
        have hlt' : (k : Int) < Ls.length := by omega
        clear hNp hpe hFp hcg
        go_wp2_with fail
        go_loopg [12, 13, 33] 3 (fun g at_ _ i wx => ∃ l : Nat, l + g = 3 ∧ i = .int .i64 l ∧ at_ = .int .i64 (N (nd p l)) ∧ Below wr.heap.size wr wx)
        case atStart => exact ⟨0, rfl, rfl, by show Value.int .i64 r = .int .i64 (N 0); rw [HT.out.root], Below.refl _ _⟩
        case round =>
          obtain ⟨l, hg, rfl, rfl, hb⟩ := hrel
          have h0 := HNp.out l (by omega)
          obtain ⟨t, ht⟩ : ∃ t, N (nd p l) = t := ⟨_, rfl⟩
          rw [ht] at h0 ⊢
          have H0 := Lib.hid h0; have Hb := Lib.hid hb; have Ht := Lib.hid ht
          have HPr := Lib.hid (HP'.out.below hb)
          have hszr := hb.size
          have hown : P'.owner t ≠ 0 := by rw [← ht, HT'.out.own _ (nd_lt p l hp) (by rw [ht]; exact h0)]; exact HT'.out.o0
          have Hown := Lib.hid hown
          clear h0 hb ht hown
          by_cases hl : l < 3
          · have hli : (l : Int) < 3 := by omega
            go_wp2_with fail
            refine (index_any l p _ (by omega) hp).mono ?_
            rintro e w' ⟨rfl, rfl⟩
            obtain ⟨i, hi⟩ : ∃ i, p / 8 ^ (3 - l) % 8 = i := ⟨_, rfl⟩
            have hi8 : i < 8 := by omega
            rw [hi]
            have Hix := Lib.hid hi; clear hi
            go_wp2_with fail
            refine (entry_any pb db ob P' t i _ HPr.out Hown.out hi8).mono ?_
            rintro e w2 ⟨rfl, hb2⟩
            have Hb2 := Lib.hid (Hb.out.trans (hb2.mono hszr))
            clear hb2
            have hst := HT'.out.step p l hp hl (by rw [Ht.out]; exact H0.out)
            rw [Ht.out, Hix.out] at hst
            have hc := HNp.out (l + 1) (by omega)
            rw [if_neg hc] at hst
            obtain ⟨c1, c2⟩ := HT'.out.bd _ (nd_lt p (l + 1) hp) hc
            obtain ⟨c, hcc⟩ : ∃ c, N (nd p (l + 1)) = c := ⟨_, rfl⟩
            rw [hcc] at hst c1 c2 hc
            have hd : (c * 256 + 1) / 256 = c := by omega
            have hpn := HP'.out.hi
            rw [hst]
            have Hcc := Lib.hid hcc
            clear hst hcc hc
            go_wp2_with fail
            go_roundg (3 - (l + 1))
            case measure => omega
            case rel => exact ⟨l + 1, by omega, by go_num, by rw [Hcc.out], Hb2.out⟩
          · obtain rfl : l = 3 := by omega
            go_wp2_with fail
            refine (index_any 3 p _ (by omega) hp).mono ?_
            rintro e w' ⟨rfl, rfl⟩
            have hi3 : p / 8 ^ (3 - 3) % 8 = p % 8 := by simp
            rw [hi3]
            go_wp2_with fail
            refine (set_any pb db ob P' t (p % 8) 0 _ HPr.out (by omega) (by omega) (by omega)).mono ?_
            rintro e w2 ⟨rfl, hP2, hK2⟩
            obtain ⟨ht1, ht2⟩ := HT'.out.told p hp (HNp.out 3 (by omega)) 0 (Y p) (by omega) (by omega)
            rw [if_pos rfl] at ht1 ht2
            have hYp : updB Y p (Y p) = Y := by funext j; unfold updB; split <;> simp_all
            rw [hYp, show N (73 + p / 8) = t from Ht.out] at ht1
            rw [show N (73 + p / 8) = t from Ht.out] at ht2
            have HP2 := Lib.hid hP2; have Ht1 := Lib.hid ht1; have Ht2 := Lib.hid ht2
            have HK2 : Hid (Kept (PS pb db ob) W w2) := (Hkept.out.trans (Kept.of_below Hb.out)).trans hK2
            clear hP2 hK2 ht1 ht2 hYp
            go_wp2_with fail
            go_roundg (Ls.length - (k + 1))
            case measure => omega
            case rel =>
              refine ⟨k + 1, _, _, by omega, by go_num, HP2.out, Ht1.out, fun q hq ⟨j, hj, hje⟩ => ?_, fun q hq hno => ?_, Hmv.out.trans Ht2.out, ?_, ?_, HK2.out⟩
              · by_cases e : q = p
                · subst e; exact updI_same _ _ _
                · rw [updI_other _ _ _ _ e]
                  refine HF0.out q hq ⟨j, ?_, hje⟩
                  rcases Nat.lt_or_ge j k with h | h
                  · exact h
                  · exfalso
                    have : j = k := by omega
                    subst this
                    have := hje.symm.trans Hpe.out
                    omega
              · have e : q ≠ p := fun e => hno ⟨k, by omega, by rw [e]; exact Hpe.out⟩
                rw [updI_other _ _ _ _ e]
                exact HF1.out q hq fun ⟨j, hj, hje⟩ => hno ⟨j, by omega, hje⟩
              · unfold Pool.left; rw [setE_n, setE_O]; exact Hleft.out
              · rw [setE_O]; exact HO.out
      · obtain rfl : k = Ls.length := by omega
        have hlt' : ¬ ((Ls.length : Nat) : Int) < Ls.length := by omega
        have hvx : wr.cell? ⟨h0 + 1, 0, none⟩ = some (.slice A Ls.length c0) := by
          rw [← hvz]; exact World.cell?_of_block (Hkept.out.block (h0 + 1) (by omega) (by rintro (e | e | e) <;> omega))
        clear hvz
        have HDx : Hid (wr.heap[D]? = some (.deferred (some []))) := by
          rw [Hkept.out.block D hDz (by rintro (e | e | e) <;> omega)]; exact HD.out
        go_wp2_with fail
        refine marks_ret1 HDx.out (v := .int .i64 Ls.length) (fun w => by simp [results, Try.results46, go_sem]) ?_
        refine ⟨by rw [Hlse.out], P', HP'.out.kept (putObj_kept _ D _) (by omega) (by omega) (by omega), F', HT'.out, fun p hp => ?_, Hmv.out, Hleft.out, HO.out, ?_⟩
        · unfold wipeF
          by_cases e : F p = f
          · rw [if_pos e]; exact HF0.out p hp (Hlsp.out.2 p hp e)
          · rw [if_neg e]
            refine HF1.out p hp fun ⟨j, hj, hje⟩ => e ?_
            obtain ⟨q, hq, hqe, hqF⟩ := Hlsp.out.1 j hj
            have : q = p := by have := hqe.symm.trans hje; omega
            rw [← this]; exact hqF
        · have h1 : Kept (PS pb db ob) w W := Kept.of_below (by rw [← Hh0.out]; exact Hb8.out.trans (HBW.out.mono (by omega)))
          exact (h1.trans Hkept.out).then (putObj_kept _ D _) (fun i hi e => by have := Hh0.out; omega)
end Go.Proofs.Ytndnjimiabpkpaa
