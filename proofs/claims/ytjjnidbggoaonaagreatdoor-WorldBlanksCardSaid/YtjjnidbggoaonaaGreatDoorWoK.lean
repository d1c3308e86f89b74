/- The reader's labels: the walk. -/
import Derived.Test.YtjjnidbggoaonaaGreatDoorWoJ
import Derived.Test.YtjjnidbggoaonaaGreatDoorZaB
import Derived.Deep.RegionLaw
namespace Go.Proofs.YtjjnidbggoaonaaGreatDoor
open Go.RowKit
attribute [local irreducible] World.setCell World.alloc World.drew Calls Code.wp
attribute [local go_sem] Oper.semAt_some

def labBad (b : Bool) (R : List UInt8) : Rd := ⟨R, b⟩
theorem info_pair : (Tryz.prog.info? 144).map (fun i => (i.zero, i.size, i.bytes)) = some (some (.agg #[.int .u32 0, .int .i64 0]), 2, 16) := by kernel_rfl
set_option maxRecDepth 100000 in
set_option maxHeartbeats 8000000 in
theorem rlabel_any (g0 rb : Nat) (r : Rd) (hl : r.s.length ≤ 100000) (hg : g0 ≤ rb) (w : World) (h : WoIn g0 w) (hR : RdW w rb r) :
    Calls Tryz.prog 88 #[.pointer (some ⟨rb, 0, none⟩)] w fun e w' => ∃ v l, e = .returned v ∧ LabIn w' v l ∧ (r.label.1.bad = false → l = r.label.2) ∧ RdW w' rb r.label.1 ∧ Kept (· = rb) w w' := by
  have H := Lib.hid h
  have hrb : rb < w.heap.size := Blk.lt hR
  have Hrb := Lib.hid hrb
  have Htl := Lib.hid (fun w => trimLeft_any r.s w)
  have hlt := trimL_len r.s
  obtain ⟨T, hT⟩ : ∃ T, trimL r.s = T := ⟨_, rfl⟩
  rw [hT] at Htl hlt
  have Hcut := Lib.hid (fun w h => cutW_any 125 T (by omega) w h)
  have hBd := label_bad r
  have hGd := label_good r
  rw [hT] at hBd hGd
  have hcw := cutW_len 125 T
  obtain ⟨W, hW⟩ : ∃ W, cutW 125 T = W := ⟨_, rfl⟩
  obtain ⟨R, hRr⟩ : ∃ R, cutR 125 T = R := ⟨_, rfl⟩
  obtain ⟨ok, hok⟩ : ∃ ok, (cutAt 125 T).isSome = ok := ⟨_, rfl⟩
  rw [hW, hRr, hok] at Hcut hBd hGd
  rw [hW, hRr] at hcw
  have HBd := Lib.hid hBd; have HGd := Lib.hid hGd
  clear hBd hGd
  have Hwl : Hid (W.length ≤ 100000) := by show _ ≤ _; omega
  have Hpre := Lib.hid (fun w => pre_any W [123] w)
  obtain ⟨w0, hw0⟩ : ∃ w0 : World, w0 = w.alloc (.cells #[.int .i64 0, .slice none 0 0] 104) := ⟨_, rfl⟩
  obtain ⟨xb, hxb⟩ : ∃ xb, xb = w.heap.size := ⟨_, rfl⟩
  have Hxb := Lib.hid hxb
  have HX0 : Hid (Blk w0 xb #[.int .i64 0, .slice none 0 0] 104) := by rw [hw0, hxb]; exact Blk.new _ _ _
  have HK0 : Hid (Kept (· = rb) w w0) := by rw [hw0]; exact (Kept.refl _ w).alloc _
  have HR0 : Hid (RdW w0 rb r) := by rw [hw0]; exact Blk.alloc hR _
  have hc0 := Blk.cell HR0.out
  have hf0 := Blk.free HR0.out
  have Hrx : Hid (rb ≠ xb) := by show _ ≠ _; omega
  clear h hR hT hW hRr hok hcw hlt hrb
  rw [hw0] at hc0 hf0
  go_enter Tryz.func88, Tryz.ntmps88
  go_wp2_with fail
  refine (Htl.out _).mono ?_
  rintro e w1 ⟨rfl, rfl⟩
  rw [← hw0, ← hxb]
  clear hc0 hf0
  have hc0 := Blk.cell HR0.out
  have hf0 := Blk.free HR0.out
  have HR1 : Hid (RdW (w0.setCell ⟨rb, 0, none⟩ (S T)) rb ⟨T, r.bad⟩) := (Blk.set HR0.out 0 (S T)).cells rfl
  have HK1 : Hid (Kept (· = rb) w (w0.setCell ⟨rb, 0, none⟩ (S T))) := HK0.out.setIn rb 0 _ rfl
  have HX1 : Hid (Blk (w0.setCell ⟨rb, 0, none⟩ (S T)) xb #[.int .i64 0, .slice none 0 0] 104) := HX0.out.set_other (a := ⟨rb, 0, none⟩) Hrx.out _
  have hc1 := Blk.cell HR1.out
  clear hw0 hxb
  go_wp2_with fail
  refine (Hcut.out _ (H.out.kept HK1.out (fun b e => by rw [e]; exact hg)).has.base.mx).mono ?_
  rintro e w2 ⟨rfl, hb2⟩
  have HR2 := Lib.hid (Blk.below HR1.out hb2 (Blk.lt HR1.out))
  have HK2 : Hid (Kept (· = rb) w w2) := HK1.out.trans (Kept.of_below hb2)
  have HX2 := Lib.hid (Blk.below HX1.out hb2 (Blk.lt HX1.out))
  clear hb2 hc1 HR1 HK1 HX1 hc0 hf0 HR0 HK0 HX0
  have HR3 : Hid (RdW (w2.setCell ⟨rb, 0, none⟩ (S R)) rb ⟨R, r.bad⟩) := (Blk.set HR2.out 0 (S R)).cells rfl
  have HK3 : Hid (Kept (· = rb) w (w2.setCell ⟨rb, 0, none⟩ (S R))) := HK2.out.setIn rb 0 _ rfl
  have HX3 : Hid (Blk (w2.setCell ⟨rb, 0, none⟩ (S R)) xb #[.int .i64 0, .slice none 0 0] 104) := HX2.out.set_other (a := ⟨rb, 0, none⟩) Hrx.out _
  have hc2 := Blk.cell HR2.out
  have hf2 := Blk.free HR2.out
  have hx2 := Blk.cell HX2.out
  have fx2 := Blk.free HX2.out
  have hrx := Hrx.out
  have hxr := Ne.symm Hrx.out
  clear Hcut Htl
  by_cases hgood : ok = true ∧ ([123] : List UInt8).isPrefixOf W = true ∧ ∀ c R', R = c :: R' → c = 32
  · obtain ⟨rfl, hp, hR'⟩ := hgood
    obtain ⟨i, rfl⟩ : ∃ i, W = 123 :: i := by
      cases W with
      | nil => cases hp
      | cons c t => refine ⟨t, ?_⟩; simp at hp; rw [← hp]
    have HG := Lib.hid (HGd.out i R rfl rfl rfl (by
      cases R with
      | nil => exact .inl rfl
      | cons c t => right; rw [hR' c t rfl]; rfl))
    have Hp := Lib.hid hp
    clear hp HBd HGd
    have hil : i.length ≤ 100000 := by have := Hwl.out; simp at this; omega
    have hxi : (⟨(123 :: i).toArray⟩ : ByteArray).extract 1 (i.length + 1) = ⟨i.toArray⟩ := by
      apply ByteArray.ext
      simp
    have Hsp := Lib.hid (fun w h => split_any 32 i (by omega) w h)
    have hpl := partsAt_len 32 i
    have hpe := partsAt_each 32 i
    obtain ⟨f, hf⟩ : ∃ f, partsAt 32 i = f := ⟨_, rfl⟩
    rw [hf] at Hsp HG hpl hpe
    have hfne : f ≠ [] := by rw [← hf]; exact partsAt_ne 32 i
    obtain ⟨f0, fr, rfl⟩ : ∃ f0 fr, f = f0 :: fr := by
      cases f with
      | nil => exact absurd rfl hfne
      | cons x y => exact ⟨x, y, rfl⟩
    have Hmx : Hid (HasMax (w2.setCell ⟨rb, 0, none⟩ (S R))) := (H.out.kept HK3.out (fun b e => by rw [e]; exact hg)).has.base.mx
    have hRR : (R == []) = true ∨ ((R == []) = false ∧ (0 : Int) < R.length ∧ ∀ h, (({ data := R.toArray } : ByteArray)[0]'h) = 32) := by
      cases R with
      | nil => exact .inl rfl
      | cons c t => right; exact ⟨rfl, by simp, fun _ => hR' c t rfl⟩
    have HR4 : Hid (RdW ((w2.setCell ⟨rb, 0, none⟩ (S R)).alloc (.cells (S f0 :: fr.map S).toArray 9)) rb ⟨R, r.bad⟩) := Blk.alloc HR3.out _
    have HK4 : Hid (Kept (· = rb) w ((w2.setCell ⟨rb, 0, none⟩ (S R)).alloc (.cells (S f0 :: fr.map S).toArray 9))) := HK3.out.alloc _
    have HX4 : Hid (Blk ((w2.setCell ⟨rb, 0, none⟩ (S R)).alloc (.cells (S f0 :: fr.map S).toArray 9)) xb #[.int .i64 0, .slice none 0 0] 104) := HX3.out.alloc _
    obtain ⟨qb, hqb⟩ : ∃ qb, qb = w2.heap.size := ⟨_, rfl⟩
    have HQ4 : Hid (Blk ((w2.setCell ⟨rb, 0, none⟩ (S R)).alloc (.cells (S f0 :: fr.map S).toArray 9)) qb (S f0 :: fr.map S).toArray 9) := by
      rw [hqb]
      have := Blk.new (w2.setCell ⟨rb, 0, none⟩ (S R)) (S f0 :: fr.map S).toArray 9
      exact Lib.hid (by simpa using this)
    have Hqx : Hid (xb < qb) := by rw [hqb]; exact HX2.out.lt
    have Hqr : Hid (rb < qb) := by rw [hqb]; exact HR2.out.lt
    clear hf hfne
    have hlen1 : ((123 :: i : List UInt8).length : Int) = (i.length : Int) + 1 := by simp
    have Hpl := Lib.hid hpl; have Hpe := Lib.hid hpe
    clear hpl hpe hR'
    rcases hRR with h1 | ⟨h1, h2, h3⟩
    all_goals
      go_wp2_with fail
      refine (Hpre.out _).mono ?_
      rintro e w4 ⟨rfl, rfl⟩
      go_wp2_with fail
      refine (Hsp.out _ Hmx.out).mono ?_
      rintro e w4 ⟨rfl, rfl⟩
      go_wp2_with fail
      refine (level_any g0 rb ⟨R, r.bad⟩ f0 hg _ (H.out.kept HK4.out (fun b e => by rw [e]; exact hg)) HR4.out).mono ?_
      rintro e w5 ⟨rfl, hR5, hk5⟩
      rw [lev_eq] at hR5
      have HR5 := Lib.hid hR5
      have HK5 : Hid (Kept (· = rb) w w5) := HK4.out.trans hk5
      have HX5 := Lib.hid (HX4.out.below' hk5 (Ne.symm Hrx.out))
      have HQ5 := Lib.hid (HQ4.out.below' hk5 (by have := Hqr.out; omega))
      rw [← hqb]
      have Hst := Lib.hid (LabSt.begin f0 fr)
      obtain ⟨d, hd⟩ : ∃ d, (levOf f0).getD 0 = d := ⟨_, rfl⟩
      obtain ⟨fl, hfl⟩ : ∃ fl, (!(levOf f0).isSome) = fl := ⟨_, rfl⟩
      rw [hd, hfl] at Hst
      rw [hfl] at HR5
      rw [hd]
      clear hR5 hk5 HR4 HK4 HX4 HQ4 hd hfl hxi hlen1 Hmx HX3 HR3 HK3 hqb hc2 hf2 hx2 fx2
      have hq5 := HQ5.out.cell
      obtain ⟨lb, hlb⟩ : ∃ lb, lb = w5.heap.size := ⟨_, rfl⟩
      have HL6 : Hid (Blk (w5.alloc (.cells #[.int .i64 (d : Nat), .slice none 0 0] 104)) lb #[.int .i64 (d : Nat), .slice none 0 0] 104) := by rw [hlb]; exact Blk.new _ _ _
      have HR6 : Hid (RdW (w5.alloc (.cells #[.int .i64 (d : Nat), .slice none 0 0] 104)) rb ⟨R, r.bad || fl⟩) := Blk.alloc HR5.out _
      have HK6 : Hid (Kept (· = rb) w (w5.alloc (.cells #[.int .i64 (d : Nat), .slice none 0 0] 104))) := HK5.out.alloc _
      have HX6 : Hid (Blk (w5.alloc (.cells #[.int .i64 (d : Nat), .slice none 0 0] 104)) xb #[.int .i64 0, .slice none 0 0] 104) := HX5.out.alloc _
      have HQ6 : Hid (Blk (w5.alloc (.cells #[.int .i64 (d : Nat), .slice none 0 0] 104)) qb (S f0 :: fr.map S).toArray 9) := HQ5.out.alloc _
      have Hql : Hid (qb < lb) := by rw [hlb]; exact HQ5.out.lt
      obtain ⟨i0, hi0, hz0, hz1, hz2⟩ := info_parts info_pair
      have Hi0 := Lib.hid hi0; have Hz0 := Lib.hid hz0; have Hz1 := Lib.hid hz1; have Hz2 := Lib.hid hz2
      clear hi0 hz0 hz1 hz2
      go_wp2_with fail
      all_goals
        rw [← hlb]
        have Hlb := Lib.hid hlb
        clear hlb
        go_loopg [9, 10, 11, 12, 13, 14, 68] fr.length (fun g _ _ _ _ _ _ vi wx => ∃ (k : Nat) (ps : List (Nat × Nat)) (A : Value) (fl' : Bool), k + g = fr.length ∧ vi = .int .i64 k ∧ Hid (LabSt f0 fr k d ps fl') ∧ Hid (Blk wx lb #[.int .i64 (d : Nat), A] 104) ∧ Hid (wx.ownsRow (qb + 1) 144 2 A ps.length (ps.flatMap pairV)) ∧ Hid (Blk wx qb (S f0 :: fr.map S).toArray 9) ∧ Hid (Blk wx xb #[.int .i64 0, .slice none 0 0] 104) ∧ Hid (RdW wx rb ⟨R, r.bad || fl'⟩) ∧ Hid (Kept (· = rb) w wx))
        case atStart => exact ⟨0, [], .slice none 0 0, fl, by omega, rfl, Hst, HL6, Lib.hid (World.ownsRow_nil _ _ _ _), HQ6, HX6, HR6, HK6⟩
        case round =>
          obtain ⟨k, ps, A, fl', hk, rfl, HS, HL, HA, HQ, HX, HR', HK⟩ := hrel
          by_cases hlt : k < fr.length
          · have hlt' : (k : Int) < fr.length := by omega
            obtain ⟨s, hs⟩ : ∃ s, fr[k]? = some s := ⟨_, List.getElem?_eq_getElem hlt⟩
            have hcp : wr.cell? ⟨qb, k + 1, none⟩ = some (S s) := by rw [HQ.out.cell]; simp [hs]
            have hcp' : wr.cell? ⟨qb, 1 + k, none⟩ = some (S s) := by rw [Nat.add_comm]; exact hcp
            have hsl : s.length ≤ 100000 := Nat.le_trans (Hpe.out s (List.mem_cons_of_mem _ (List.mem_of_getElem? hs))) hil
            have Hcut := Lib.hid (fun w h => cutW_any 58 s (by omega) w h)
            have HSs := HS.out.stop hs
            have HSn := fun hc c hn h30 => HS.out.next hs hc (c := c) hn h30
            have hcw := cutW_len 58 s
            obtain ⟨a, ha⟩ : ∃ a, cutW 58 s = a := ⟨_, rfl⟩
            obtain ⟨b, hb⟩ : ∃ b, cutR 58 s = b := ⟨_, rfl⟩
            obtain ⟨ok, hok⟩ : ∃ ok, (cutAt 58 s).isSome = ok := ⟨_, rfl⟩
            rw [ha, hb, hok] at Hcut HSn
            rw [ha, hok] at HSs
            rw [ha, hb] at hcw
            have HSs := Lib.hid HSs; have HSn := Lib.hid HSn
            have Hal : Hid (a.length ≤ 100000) := Nat.le_trans hcw.1 hsl
            have Hwr := Lib.hid (H.out.kept HK.out (fun b e => by rw [e]; exact hg))
            clear hs ha hb hok hcw
            have hfin : labOf (f0 :: fr) = none → ∀ wz bz, Blk wz rb #[S R, .bool bz] 122 → Kept (· = rb) w wz → Blk wz xb #[.int .i64 0, .slice none 0 0] 104 → r.label.1.bad = true ∧ RdW (((wz.setCell ⟨rb, 1, none⟩ (.bool true)).setCell ⟨xb, 0, none⟩ (.int .i64 0)).setCell ⟨xb, 1, none⟩ (.slice none 0 0)) rb r.label.1 ∧ Blk (((wz.setCell ⟨rb, 1, none⟩ (.bool true)).setCell ⟨xb, 0, none⟩ (.int .i64 0)).setCell ⟨xb, 1, none⟩ (.slice none 0 0)) xb #[.int .i64 0, .slice none 0 0] 104 ∧ Kept (· = rb) w (((wz.setCell ⟨rb, 1, none⟩ (.bool true)).setCell ⟨xb, 0, none⟩ (.int .i64 0)).setCell ⟨xb, 1, none⟩ (.slice none 0 0)) := fun e wz bz hR3 hK3 hX3 => by
              have hg2 := HG.out
              rw [e] at hg2
              rw [hg2]
              refine ⟨rfl, ?_, (((hX3.set_other (a := ⟨rb, 1, none⟩) Hrx.out _).set 0 _).set 1 _).cells rfl, ((hK3.setIn rb 1 _ rfl).setNew xb 0 _ (Nat.le_of_eq Hxb.out.symm)).setNew xb 1 _ (Nat.le_of_eq Hxb.out.symm)⟩
              have h1 : Blk (wz.setCell ⟨rb, 1, none⟩ (.bool true)) rb #[S R, .bool true] 122 := (hR3.set 1 (.bool true)).cells rfl
              exact (h1.set_other (a := ⟨xb, 0, none⟩) (Ne.symm Hrx.out) _).set_other (a := ⟨xb, 1, none⟩) (Ne.symm Hrx.out) _
            have Hfin := Lib.hid hfin
            clear hfin
            rcases Decidable.em (fr = []) with h' | h'
            · rw [h'] at hlt; exact absurd hlt (by simp)
            try exact absurd h h'
            all_goals
              go_wp2_with fail
              refine (Hcut.out _ Hwr.out.has.base.mx).mono ?_
              rintro e w7 ⟨rfl, hb7⟩
              have HB7 := Lib.hid hb7
              clear hb7
              go_wp2_with fail
              refine (number_any a Hal.out _ (Hwr.out.kept (S := fun _ => False) (Kept.of_below HB7.out) (fun b e => e.elim)).has).mono ?_
              rintro e w8 ⟨n, rfl, hn, hb8⟩
              have HB8 := Lib.hid (bel_from HB7.out hb8)
              clear hb8
              have HL8 := Lib.hid (HL.out.below HB8.out HL.out.lt)
              have HX8 := Lib.hid (HX.out.below HB8.out HX.out.lt)
              have HQ8 := Lib.hid (HQ.out.below HB8.out HQ.out.lt)
              have HR8 : Hid (Blk w8 rb #[S R, .bool (r.bad || fl')] 122) := Blk.below HR'.out HB8.out (Blk.lt HR'.out)
              have HK8 : Hid (Kept (· = rb) w w8) := HK.out.trans (Kept.of_below HB8.out)
              have HA8 := Lib.hid (row_kept HA.out (T := fun _ => False) (Kept.of_below HB8.out) (fun _ _ h => h))
              have hc8 := HR8.out.cell
              have hf8 := HR8.out.free
              have hx8 := HX8.out.cell
              have fx8 := HX8.out.free
              cases ok with
              | false =>
                obtain ⟨hbad, -, -, -⟩ := Hfin.out (HSs.out (.inl rfl)) _ _ HR8.out HK8.out HX8.out
                have Hbad := Lib.hid hbad
                have He := Lib.hid (HSs.out (.inl rfl))
                clear hn hbad
                go_wp2_with fail
                (try simp only [Exit.inBlock, Exit.then])
                refine bodyPost_ret (results_cell_row rfl _ _ xb _ _ (0, 0) _ rfl (Hfin.out He.out _ _ HR8.out HK8.out HX8.out).2.2.1 Tryz.underlying104 rfl (by kernel_rfl)) rfl ?_
                exact ⟨_, lab0, rfl, ⟨_, rfl, RowAt.nil _ _⟩, (fun e => by rw [Hbad.out] at e; cases e), (Hfin.out He.out _ _ HR8.out HK8.out HX8.out).2.1, (Hfin.out He.out _ _ HR8.out HK8.out HX8.out).2.2.2⟩
              | true =>
                cases hna : numW a with
                | none =>
                  have He := Lib.hid (HSs.out (.inr (.inl hna)))
                  obtain ⟨hbad, -, -, -⟩ := Hfin.out He.out _ _ HR8.out HK8.out HX8.out
                  have Hbad := Lib.hid hbad
                  clear hn hbad
                  go_wp2_with fail
                  (try simp only [Exit.inBlock, Exit.then])
                  refine bodyPost_ret (results_cell_row rfl _ _ xb _ _ (0, 0) _ rfl (Hfin.out He.out _ _ HR8.out HK8.out HX8.out).2.2.1 Tryz.underlying104 rfl (by kernel_rfl)) rfl ?_
                  exact ⟨_, lab0, rfl, ⟨_, rfl, RowAt.nil _ _⟩, (fun e => by rw [Hbad.out] at e; cases e), (Hfin.out He.out _ _ HR8.out HK8.out HX8.out).2.1, (Hfin.out He.out _ _ HR8.out HK8.out HX8.out).2.2.2⟩
                | some c =>
                  obtain rfl := hn c hna
                  by_cases h30 : c ≤ 1073741824
                  · have HN := Lib.hid (HSn.out rfl c hna h30)
                    have h30' : (c : Int) ≤ 1073741824 := by omega
                    clear hn hna
                    have Hlev := Lib.hid (level_any g0 rb ⟨R, r.bad || fl'⟩ b hg w8.drew ((H.out.kept HK8.out (fun b e => by rw [e]; exact hg)).kept ((Kept.refl (fun _ => False) w8).drew) (fun _ e => e.elim)) HR8.out.drew)
                    rw [lev_eq] at Hlev
                    obtain ⟨m, hm⟩ : ∃ m, (levOf b).getD 0 = m := ⟨_, rfl⟩
                    obtain ⟨fm, hfm⟩ : ∃ fm, (!(levOf b).isSome) = fm := ⟨_, rfl⟩
                    rw [hm, hfm] at HN
                    rw [hm, hfm] at Hlev
                    have Hlev2 : Hid (Calls Tryz.prog 130 #[.pointer (some ⟨rb, 0, none⟩), S b] w8.drew fun e w' => ∃ v, e = .returned v ∧ (v = .int .i64 (m : Int) ∧ RdW w' rb ⟨R, (r.bad || fl') || fm⟩ ∧ Kept (· = rb) w8.drew w')) := Hlev.out.mono fun e w' ⟨h1, h2⟩ => ⟨_, h1, rfl, h2⟩
                    have hA2 : w8.drew.cell? ⟨lb, 1, none⟩ = some A := (HL8.out.drew.cell 1).trans rfl
                    have hA2' : w8.cell? ⟨lb, 1, none⟩ = some A := (HL8.out.cell 1).trans rfl
                    have hwc : IntKind.u32.wrap (c : Int) = (c : Int) := by rw [IntKind.wrap_u32]; omega
                    have hmc : (c : Int) % 4294967296 = (c : Int) := by omega
                    have Hlr : Hid (lb ≠ rb) := by have h1 := Hqr.out; have h2 := Hql.out; show _ ≠ _; omega
                    have hpl : ps.length ≤ 100001 := by have h1 := HS.out.len; have h2 := Hpl.out; simp at h2; omega
                    have HG9 : Hid (∀ w9 w5', Kept (· = rb) w8.drew w9 → RdW w9 rb ⟨R, (r.bad || fl') || fm⟩ → (w9.alloc (.cells #[.int .u32 (c : Int), .int .i64 (m : Int)] 144)).grownBy w5' A.ownBlock → Blk w5' lb #[.int .i64 (d : Nat), A] 104 ∧ Blk w5' qb (S f0 :: fr.map S).toArray 9 ∧ Blk w5' xb #[.int .i64 0, .slice none 0 0] 104 ∧ RdW w5' rb ⟨R, (r.bad || fl') || fm⟩ ∧ Kept (· = rb) w w5') := fun w9 w5' hk hr9 hg5 => by
                      have hk5 := kept_grown hg5
                      have hty : ∀ b' cs ty fz, A.ownBlock = some b' → w8.heap[b']? = some (.cells cs ty fz) → ty = 144 ∧ qb + 1 ≤ b' := fun b' cs ty fz e hh => by
                        obtain ⟨cur, h1, h2⟩ := row_type HA8.out e
                        rw [h1] at hh
                        simp at hh
                        exact ⟨hh.2.1.symm, h2⟩
                      have hno : ∀ {b' cs ty}, Blk w8 b' cs ty → ty ≠ 144 → A.ownBlock = some b' → False := fun {b' cs ty} hb hne e => hne (hty b' cs ty _ e hb).1
                      refine ⟨((HL8.out.drew.below' hk Hlr.out).alloc _).below' hk5 (hno HL8.out (by decide)), ((HQ8.out.drew.below' hk (by have := Hqr.out; omega)).alloc _).below' hk5 (hno HQ8.out (by decide)), ((HX8.out.drew.below' hk (Ne.symm Hrx.out)).alloc _).below' hk5 (hno HX8.out (by decide)), (Blk.alloc hr9 _).below' hk5 (hno HR8.out (by decide)), ?_⟩
                      refine ((HK8.out.drew.trans hk).alloc _).then hk5 (fun b' hb' e => ?_)
                      have h1 := (hty b' _ _ _ e (row_type HA8.out e).choose_spec.1).2
                      have h2 := Hqx.out; have h3 := Hxb.out
                      omega
                    have hAr : Hid (∀ b', A.ownBlock = some b' → ¬ b' = rb) := fun b' e h => by
                      obtain ⟨cur, h1, h2⟩ := row_type HA8.out e
                      have := Hqr.out
                      omega
                    have h1c : Hid (∀ u ∈ [Value.int .u32 (c : Int), Value.int .i64 (m : Int)], u.oneCell' = true) := fun u hu => by
                      simp at hu
                      rcases hu with rfl | rfl <;> rfl
                    clear hc8 hf8 hx8 fx8
                    go_upto_region 17 with fail
                    have Hlevz : Hid (∀ wz, wz = w8.drew → Calls Tryz.prog 130 #[.pointer (some ⟨rb, 0, none⟩), S b] wz fun e w' => ∃ v, e = .returned v ∧ (v = .int .i64 (m : Int) ∧ RdW w' rb ⟨R, (r.bad || fl') || fm⟩ ∧ Kept (· = rb) w8.drew w')) := fun wz e => by rw [e]; exact Hlev2.out
                    go_region_law (first
                      | (refine step_call (by rfl) (ex_call (vs := #[.pointer (some ⟨rb, 0, none⟩), S b]) (by simp [Act.eval, Act.put]) (enters_fn Tryz.func130 (by kernel_rfl) rfl)) (Hlevz.out _ (by first | rfl | exact drew_eq w8)) ?_; rintro v w9 ⟨rfl, hr9, hk9⟩; have hA3 : w9.cell? ⟨lb, 1, none⟩ = some A := ((HL8.out.drew.below' hk9 Hlr.out).cell 1).trans rfl; have hA4 : (w9.alloc (.cells #[.int .u32 (c : Int), .int .i64 (m : Int)] 144)).cell? ⟨lb, 1, none⟩ = some A := (((HL8.out.drew.below' hk9 Hlr.out).alloc _).cell 1).trans rfl)
                      | (refine step_append_lies _ (by rfl) (.tmp 98) (.tmp 105) 102 (by rfl) (qb + 1) 144 i0 _ 2 16 Tryz.underlying102 Hi0.out Hz0.out Hz1.out Hz2.out rfl (by decide) A ps.length (ps.flatMap pairV) (by simp [Act.eval]) (row_kept HA8.out ((((Kept.refl (· = rb) w8).drew).trans hk9).alloc _) (hAr.out)) ⟨w9.heap.size, 0, none⟩ 1 1 [.int .u32 (c : Int), .int .i64 (m : Int)] (by simp [Act.eval]) rfl (World.news_of_block (Blk.new w9 #[.int .u32 (c : Int), .int .i64 (m : Int)] 144)) h1c.out (by omega) (by unfold maxLen; omega) (by omega) (by have h1 := hk9.size; have h2 := HQ8.out.lt; rw [drew_size] at h1; rw [World.size_alloc]; omega) _ rfl ?_; intro g cap w5' hown5 hgrow5 _ _; have hA5 : w5'.cell? ⟨lb, 1, none⟩ = some A := ((HG9.out w9 w5' hk9 hr9 hgrow5).1.cell 1).trans rfl; have hf5 : w5'.frozen? ⟨lb, 1, none⟩ = false := (HG9.out w9 w5' hk9 hr9 hgrow5).1.free 1))
                    all_goals
                      obtain ⟨hL5, hQ5, hX5, hR5, hK5⟩ := HG9.out w9 w5' hk9 hr9 hgrow5
                      have hgl : g ≠ lb := fun e => by
                        obtain ⟨cur, hh, -⟩ := row_type (b := g) hown5 rfl
                        rw [e] at hh
                        unfold Blk at hL5
                        rw [hL5] at hh
                        simp at hh
                      have HLf : Hid (Blk (w5'.setCell ⟨lb, 1, none⟩ (.slice (some ⟨g, 0, none⟩) (ps.length + 1) cap)) lb #[.int .i64 (d : Nat), .slice (some ⟨g, 0, none⟩) (ps.length + 1) cap] 104) := (hL5.set 1 _).cells rfl
                      have HQf : Hid (Blk (w5'.setCell ⟨lb, 1, none⟩ (.slice (some ⟨g, 0, none⟩) (ps.length + 1) cap)) qb (S f0 :: fr.map S).toArray 9) := hQ5.set_other (a := ⟨lb, 1, none⟩) (by have := Hql.out; show lb ≠ qb; omega) _
                      have HXf : Hid (Blk (w5'.setCell ⟨lb, 1, none⟩ (.slice (some ⟨g, 0, none⟩) (ps.length + 1) cap)) xb #[.int .i64 0, .slice none 0 0] 104) := hX5.set_other (a := ⟨lb, 1, none⟩) (by have h1 := Hql.out; have h2 := Hqx.out; show lb ≠ xb; omega) _
                      have HRf : Hid (RdW (w5'.setCell ⟨lb, 1, none⟩ (.slice (some ⟨g, 0, none⟩) (ps.length + 1) cap)) rb ⟨R, r.bad || (fl' || fm)⟩) := by
                        have := Blk.set_other (a := ⟨lb, 1, none⟩) hR5 (Hlr.out) (.slice (some ⟨g, 0, none⟩) (ps.length + 1) cap)
                        rw [Bool.or_assoc] at this
                        exact this
                      have HKf : Hid (Kept (· = rb) w (w5'.setCell ⟨lb, 1, none⟩ (.slice (some ⟨g, 0, none⟩) (ps.length + 1) cap))) := hK5.setNew lb 1 _ (by have h1 := Hql.out; have h2 := Hqx.out; have h3 := Hxb.out; omega)
                      have HAf : Hid ((w5'.setCell ⟨lb, 1, none⟩ (.slice (some ⟨g, 0, none⟩) (ps.length + 1) cap)).ownsRow (qb + 1) 144 2 (.slice (some ⟨g, 0, none⟩) (ps.length + 1) cap) (ps ++ [(c, m)]).length ((ps ++ [(c, m)]).flatMap pairV)) := by
                        have h1 := row_kept hown5 ((Kept.refl (· = lb) w5').setIn lb 1 (.slice (some ⟨g, 0, none⟩) (ps.length + 1) cap) rfl) (fun b e h => hgl (by cases e; exact h))
                        rw [List.length_append, List.flatMap_append]
                        exact h1
                      clear hL5 hQ5 hX5 hR5 hK5 hgrow5 hown5 hk9 hr9 hA3 hA4 hA5 hf5
                      have hfl : fr.length ≤ 100001 := by have h2 := Hpl.out; simp at h2; omega
                      (try simp only [Exit.inBlock, Exit.then])
                      go_wp2_with fail
                      go_roundg (fr.length - (k + 1))
                      case measure => omega
                      case rel => exact ⟨k + 1, ps ++ [(c, m)], _, fl' || fm, by omega, by go_num, HN, HLf, HAf, HQf, HXf, HRf, HKf⟩
                  · have He := Lib.hid (HSs.out (.inr (.inr ⟨c, hna, by omega⟩)))
                    obtain ⟨hbad, -, -, -⟩ := Hfin.out He.out _ _ HR8.out HK8.out HX8.out
                    have Hbad := Lib.hid hbad
                    have h30' : 1073741824 < (c : Int) := by omega
                    clear hn hbad hna
                    go_wp2_with fail
                    (try simp only [Exit.inBlock, Exit.then])
                    refine bodyPost_ret (results_cell_row rfl _ _ xb _ _ (0, 0) _ rfl (Hfin.out He.out _ _ HR8.out HK8.out HX8.out).2.2.1 Tryz.underlying104 rfl (by kernel_rfl)) rfl ?_
                    exact ⟨_, lab0, rfl, ⟨_, rfl, RowAt.nil _ _⟩, (fun e => by rw [Hbad.out] at e; cases e), (Hfin.out He.out _ _ HR8.out HK8.out HX8.out).2.1, (Hfin.out He.out _ _ HR8.out HK8.out HX8.out).2.2.2⟩
          · obtain rfl : k = fr.length := by omega
            obtain ⟨av, cv, rfl, -, -⟩ := RowAt.form (RowAt.own HA.out)
            have Hend := Lib.hid (HS.out.fin HG.out)
            have Hrt := Lib.hid (fun v w h => lab_right_any ⟨d, ps⟩ (by have := HS.out.d4; show d < _; omega) (fun p hp => by have := HS.out.bd p hp; omega) v w h)
            have HLv : Hid (LabIn wr (.agg #[.int .i64 (d : Nat), (.slice av ps.length cv)]) ⟨d, ps⟩) := ⟨(.slice av ps.length cv), rfl, RowAt.own HA.out⟩
            have hlc := HL.out.cell
            clear hk
            go_wp2_with fail
            refine (Hrt.out _ _ HLv.out).mono ?_
            rintro e w9 ⟨rfl, hb9⟩
            have HR9 : Hid (Blk w9 rb #[S R, .bool (r.bad || fl')] 122) := Blk.below HR'.out hb9 (Blk.lt HR'.out)
            have HK9 : Hid (Kept (· = rb) w w9) := HK.out.trans (Kept.of_below hb9)
            have HX9 := Lib.hid (HX.out.below hb9 HX.out.lt)
            have HL9 := Lib.hid (HL.out.below hb9 HL.out.lt)
            have HP9 : Hid (PairsIn w9 (.slice av ps.length cv) ps) := RowAt.below (RowAt.own HA.out) hb9 (Nat.le_refl _)
            have hc9 := HR9.out.cell
            have hf9 := HR9.out.free
            have hx9 := HX9.out.cell
            have fx9 := HX9.out.free
            have hl9 := HL9.out.cell
            clear hb9 hlc
            cases hrt : Lab.right ⟨d, ps⟩ with
            | false =>
              have HE := Lib.hid (Hend.out.1 hrt)
              have hE : Blk (((w9.setCell ⟨rb, 1, none⟩ (.bool true)).setCell ⟨xb, 0, none⟩ (.int .i64 0)).setCell ⟨xb, 1, none⟩ (.slice none 0 0)) rb #[S R, .bool true] 122 ∧ Blk (((w9.setCell ⟨rb, 1, none⟩ (.bool true)).setCell ⟨xb, 0, none⟩ (.int .i64 0)).setCell ⟨xb, 1, none⟩ (.slice none 0 0)) xb #[.int .i64 0, .slice none 0 0] 104 ∧ Kept (· = rb) w (((w9.setCell ⟨rb, 1, none⟩ (.bool true)).setCell ⟨xb, 0, none⟩ (.int .i64 0)).setCell ⟨xb, 1, none⟩ (.slice none 0 0)) := by
                have h1 : Blk (w9.setCell ⟨rb, 1, none⟩ (.bool true)) rb #[S R, .bool true] 122 := (HR9.out.set 1 (.bool true)).cells rfl
                exact ⟨(h1.set_other (a := ⟨xb, 0, none⟩) (Ne.symm Hrx.out) _).set_other (a := ⟨xb, 1, none⟩) (Ne.symm Hrx.out) _, (((HX9.out.set_other (a := ⟨rb, 1, none⟩) Hrx.out _).set 0 _).set 1 _).cells rfl, ((HK9.out.setIn rb 1 _ rfl).setNew xb 0 _ (Nat.le_of_eq Hxb.out.symm)).setNew xb 1 _ (Nat.le_of_eq Hxb.out.symm)⟩
              have HFin := Lib.hid hE
              clear hE
              go_wp2_with fail
              (try simp only [Exit.inBlock, Exit.then])
              refine bodyPost_ret (results_cell_row rfl _ _ xb _ _ (0, 0) _ rfl HFin.out.2.1 Tryz.underlying104 rfl (by kernel_rfl)) rfl ?_
              exact ⟨_, lab0, rfl, ⟨_, rfl, RowAt.nil _ _⟩, (fun e => by rw [HE.out] at e; cases e), by rw [HE.out]; exact HFin.out.1, HFin.out.2.2⟩
            | true =>
              have HE := Lib.hid (Hend.out.2 hrt)
              have hE : RdW ((w9.setCell ⟨xb, 0, none⟩ (.int .i64 (d : Nat))).setCell ⟨xb, 1, none⟩ (.slice av ps.length cv)) rb ⟨R, r.bad || fl'⟩ ∧ Blk ((w9.setCell ⟨xb, 0, none⟩ (.int .i64 (d : Nat))).setCell ⟨xb, 1, none⟩ (.slice av ps.length cv)) xb #[.int .i64 (d : Nat), (.slice av ps.length cv)] 104 ∧ Kept (· = rb) w ((w9.setCell ⟨xb, 0, none⟩ (.int .i64 (d : Nat))).setCell ⟨xb, 1, none⟩ (.slice av ps.length cv)) ∧ PairsIn ((w9.setCell ⟨xb, 0, none⟩ (.int .i64 (d : Nat))).setCell ⟨xb, 1, none⟩ (.slice av ps.length cv)) (.slice av ps.length cv) ps := by
                refine ⟨(HR9.out.set_other (a := ⟨xb, 0, none⟩) (Ne.symm Hrx.out) _).set_other (a := ⟨xb, 1, none⟩) (Ne.symm Hrx.out) _, ((HX9.out.set 0 _).set 1 _).cells rfl, (HK9.out.setNew xb 0 _ (Nat.le_of_eq Hxb.out.symm)).setNew xb 1 _ (Nat.le_of_eq Hxb.out.symm), ?_⟩
                refine RowAt.kept HP9.out (((Kept.refl (· = xb) w9).setIn xb 0 _ rfl).setIn xb 1 _ rfl) (fun b cs fz e hh => ?_)
                have := HX9.out
                unfold Blk at this
                rw [e, this] at hh
                simp at hh
              have HFin := Lib.hid hE
              clear hE
              go_wp2_with fail
              (try simp only [Exit.inBlock, Exit.then])
              refine bodyPost_ret (results_cell_row rfl _ _ xb _ _ (0, 0) _ rfl HFin.out.2.1 Tryz.underlying104 rfl (by kernel_rfl)) rfl ?_
              exact ⟨_, ⟨d, ps⟩, rfl, ⟨_, rfl, HFin.out.2.2.2⟩, (fun e => by rw [HE.out.1] at e; exact (HE.out.2 (by simp at e; exact e.2)).symm), by rw [HE.out.1]; exact HFin.out.1, HFin.out.2.2.1⟩
  · have hF : r.label = (⟨R, true⟩, lab0) := HBd.out (by
      rcases Bool.eq_false_or_eq_true ok with h1 | h1
      · rcases Bool.eq_false_or_eq_true (([123] : List UInt8).isPrefixOf W) with h2 | h2
        · right; right
          cases R with
          | nil => exact absurd ⟨h1, h2, fun c R' e => by cases e⟩ hgood
          | cons c t => exact ⟨c, t, rfl, fun e => hgood ⟨h1, h2, fun c' R' e' => by cases e'; exact e⟩⟩
        · exact .inr (.inl h2)
      · exact .inl h1)
    have HF := Lib.hid hF
    clear hF HBd HGd
    have hfin : ∀ (w3 : World), Blk w3 rb #[S R, .bool r.bad] 122 → Kept (· = rb) w w3 → Blk w3 xb #[.int .i64 0, .slice none 0 0] 104 → RdW (((w3.setCell ⟨rb, 1, none⟩ (.bool true)).setCell ⟨xb, 0, none⟩ (.int .i64 0)).setCell ⟨xb, 1, none⟩ (.slice none 0 0)) rb r.label.1 ∧ Blk (((w3.setCell ⟨rb, 1, none⟩ (.bool true)).setCell ⟨xb, 0, none⟩ (.int .i64 0)).setCell ⟨xb, 1, none⟩ (.slice none 0 0)) xb #[.int .i64 0, .slice none 0 0] 104 ∧ Kept (· = rb) w (((w3.setCell ⟨rb, 1, none⟩ (.bool true)).setCell ⟨xb, 0, none⟩ (.int .i64 0)).setCell ⟨xb, 1, none⟩ (.slice none 0 0)) := fun w3 hR3 hK3 hX3 => by
      rw [HF.out]
      refine ⟨?_, (((hX3.set_other (a := ⟨rb, 1, none⟩) Hrx.out _).set 0 _).set 1 _).cells rfl, ((hK3.setIn rb 1 _ rfl).setNew xb 0 _ (Nat.le_of_eq Hxb.out.symm)).setNew xb 1 _ (Nat.le_of_eq Hxb.out.symm)⟩
      have h1 : Blk (w3.setCell ⟨rb, 1, none⟩ (.bool true)) rb #[S R, .bool true] 122 := (hR3.set 1 (.bool true)).cells rfl
      exact (h1.set_other (a := ⟨xb, 0, none⟩) (Ne.symm Hrx.out) _).set_other (a := ⟨xb, 1, none⟩) (Ne.symm Hrx.out) _
    have Hfin := Lib.hid hfin
    clear hfin
    cases ok with
    | false =>
      clear hgood
      go_wp2_with fail
      (try simp only [Exit.inBlock, Exit.then])
      refine bodyPost_ret (results_cell_row rfl _ _ xb _ _ (0, 0) _ rfl (Hfin.out _ HR3.out HK3.out HX3.out).2.1 Tryz.underlying104 rfl (by kernel_rfl)) rfl ?_
      exact ⟨_, lab0, rfl, ⟨_, rfl, RowAt.nil _ _⟩, (fun e => by rw [HF.out] at e; cases e), (Hfin.out _ HR3.out HK3.out HX3.out).1, (Hfin.out _ HR3.out HK3.out HX3.out).2.2⟩
    | true =>
      cases hp : ([123] : List UInt8).isPrefixOf W with
      | false =>
        rw [hp] at Hpre
        clear hgood
        go_wp2_with fail
        refine (Hpre.out _).mono ?_
        rintro e w4 ⟨rfl, rfl⟩
        go_wp2_with fail
        (try simp only [Exit.inBlock, Exit.then])
        refine bodyPost_ret (results_cell_row rfl _ _ xb _ _ (0, 0) _ rfl (Hfin.out _ HR3.out HK3.out HX3.out).2.1 Tryz.underlying104 rfl (by kernel_rfl)) rfl ?_
        exact ⟨_, lab0, rfl, ⟨_, rfl, RowAt.nil _ _⟩, (fun e => by rw [HF.out] at e; cases e), (Hfin.out _ HR3.out HK3.out HX3.out).1, (Hfin.out _ HR3.out HK3.out HX3.out).2.2⟩
      | true =>
        rw [hp] at Hpre
        obtain ⟨c, R', rfl, hc⟩ : ∃ c R', R = c :: R' ∧ c ≠ 32 := by
          cases R with
          | nil => exact absurd ⟨rfl, hp, fun c R' e => by cases e⟩ hgood
          | cons c t => exact ⟨c, t, rfl, fun e => hgood ⟨rfl, hp, fun c' R' e' => by cases e'; exact e⟩⟩
        have hcn : ((c.toNat : Int) != 32) = true := by
          have : c.toNat ≠ 32 := fun e => hc (UInt8.toNat_inj.1 e)
          simp; omega
        have hc0 : ∀ h, (({ data := (c :: R').toArray } : ByteArray)[0]'h) = c := fun _ => rfl
        have hRe : ((c :: R') == ([] : List UInt8)) = false := rfl
        clear hgood hp hc
        go_wp2_with fail
        refine (Hpre.out _).mono ?_
        rintro e w4 ⟨rfl, rfl⟩
        go_wp2_with fail
        (try simp only [Exit.inBlock, Exit.then])
        refine bodyPost_ret (results_cell_row rfl _ _ xb _ _ (0, 0) _ rfl (Hfin.out _ HR3.out HK3.out HX3.out).2.1 Tryz.underlying104 rfl (by kernel_rfl)) rfl ?_
        exact ⟨_, lab0, rfl, ⟨_, rfl, RowAt.nil _ _⟩, (fun e => by rw [HF.out] at e; cases e), (Hfin.out _ HR3.out HK3.out HX3.out).1, (Hfin.out _ HR3.out HK3.out HX3.out).2.2⟩
end Go.Proofs.YtjjnidbggoaonaaGreatDoor
