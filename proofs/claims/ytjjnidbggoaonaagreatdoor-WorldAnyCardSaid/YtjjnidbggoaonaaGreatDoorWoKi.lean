/- A word's kind; a text's lines. -/
import Derived.Test.YtjjnidbggoaonaaGreatDoorWoK
namespace Go.Proofs.YtjjnidbggoaonaaGreatDoor
open Go.RowKit
attribute [local irreducible] World.setCell World.alloc World.drew World.setRow Calls Code.wp
attribute [local go_sem] Oper.semAt_some

def kindText : List UInt8 := [45, 32, 99, 111, 110, 116, 97, 105, 110, 101, 114, 32, 115, 101, 103, 109, 101, 110, 116, 32, 116, 104, 114, 101, 97, 100, 32, 115, 112, 97, 99, 101, 32, 103, 97, 116, 101, 32, 100, 101, 118, 105, 99, 101]
theorem kind_fields : Lib.fields kindText = kindW := by decide +kernel
theorem kind_ascii : ∀ (j : Nat) (b : UInt8), kindText[j]? = some b → b.toNat < 128 := by
  intro j b h
  have h1 : kindText.all (fun b => decide (b.toNat < 128)) = true := by decide +kernel
  have := List.all_eq_true.1 h1 b (List.mem_of_getElem? h)
  simpa using this
theorem fields_kinds (w : World) (hs : HasSp w) :
    Calls Tryz.prog 58 #[S kindText] w fun e w' => e = .returned (.slice (some ⟨w.heap.size, 0, none⟩) 7 7) ∧ w' = w.alloc (.cells (kindW.map S).toArray 9) := by
  refine (Tryz.strings_Fields_laid ⟨kindText.toArray⟩ w (by decide +kernel) (by simpa using kind_ascii) hs).mono ?_
  rintro e w' ⟨rfl, rfl⟩
  have h : Lib.fields (ByteArray.mk kindText.toArray).data.toList = kindW := by simpa using kind_fields
  rw [h]
  exact ⟨rfl, rfl⟩
/-- Behind the words that it isn't. -/
def KindSt (wd : List UInt8) (k : Nat) : Prop := ∀ j, j < k → kindW[j]? ≠ some wd
theorem KindSt.next {wd s : List UInt8} {k : Nat} (h : KindSt wd k) (hs : kindW[k]? = some s) (hn : (s == wd) = false) : KindSt wd (k + 1) := fun j hj e => by
  rcases Nat.lt_or_ge j k with h1 | h1
  · exact h j h1 e
  · obtain rfl : j = k := by omega
    rw [hs] at e
    cases e
    simp at hn
theorem KindSt.stop {wd s : List UInt8} {k : Nat} (h : KindSt wd k) (hs : kindW[k]? = some s) (hn : (s == wd) = true) : kindOf wd = k := by
  obtain rfl : s = wd := by simpa using hn
  unfold kindOf
  have hk := (List.getElem?_eq_some_iff.1 hs).1
  have : kindW.findIdx? (· == s) = some k := by
    rw [List.findIdx?_eq_some_iff_getElem]
    refine ⟨hk, by rw [(List.getElem?_eq_some_iff.1 hs).2]; simp, fun j hj => ?_⟩
    have hjl : j < kindW.length := by omega
    have := h j hj
    rw [List.getElem?_eq_getElem hjl] at this
    simpa using this
  rw [this]; rfl
theorem KindSt.fin {wd : List UInt8} (h : KindSt wd 7) : kindOf wd = 0 := by
  unfold kindOf
  have : kindW.findIdx? (· == wd) = none := by
    rw [List.findIdx?_eq_none_iff]
    intro x hx
    obtain ⟨j, hj, e⟩ := List.getElem_of_mem hx
    have hj7 : j < 7 := hj
    have := h j hj7
    rw [List.getElem?_eq_getElem hj, e] at this
    simpa using this
  rw [this]; rfl
set_option maxRecDepth 100000 in
set_option maxHeartbeats 4000000 in
theorem kind_any (wd : List UInt8) (w : World) (h : HasSp w) :
    Calls Tryz.prog 56 #[S wd] w fun e w' => e = .returned (.int .i64 (kindOf wd : Nat)) ∧ Below w.heap.size w w' := by
  have Hf := Lib.hid (fields_kinds w h)
  obtain ⟨qb, hqb⟩ : ∃ qb, qb = w.heap.size := ⟨_, rfl⟩
  obtain ⟨w1, hw1⟩ : ∃ w1 : World, w1 = w.alloc (.cells (kindW.map S).toArray 9) := ⟨_, rfl⟩
  have HQ : Hid (Blk w1 qb (kindW.map S).toArray 9) := by rw [hw1, hqb]; exact Blk.new _ _ _
  have HB : Hid (Below w.heap.size w w1) := by rw [hw1]; exact (Below.refl _ w).alloc (Nat.le_refl _) _
  clear h
  go_enter Tryz.func56, Tryz.ntmps56
  go_wp2_with fail
  refine Hf.out.mono ?_
  rintro e w1' ⟨rfl, rfl⟩
  rw [← hw1, ← hqb]
  clear hw1 hqb Hf
  go_wp2_with fail
  go_loopg [3, 4, 7] 7 (fun g _ _ vi wx => ∃ k : Nat, k + g = 7 ∧ vi = .int .i64 k ∧ wx = w1 ∧ Hid (KindSt wd k))
  case atStart => exact ⟨0, rfl, rfl, rfl, Lib.hid fun j hj => by omega⟩
  case round =>
    obtain ⟨k, hk, rfl, rfl, HK⟩ := hrel
    by_cases hlt : k < 7
    · have hlt' : (k : Int) < 7 := by omega
      obtain ⟨s, hs⟩ : ∃ s, kindW[k]? = some s := ⟨_, List.getElem?_eq_getElem (by exact hlt)⟩
      have hcs : wr.cell? ⟨qb, k, none⟩ = some (S s) := by
        rw [HQ.out.cell]
        simp only [List.getElem?_toArray, List.getElem?_map, hs]
        rfl
      have Hn := Lib.hid (fun e => HK.out.next hs e)
      have Hy := Lib.hid (fun e => HK.out.stop hs e)
      clear hs
      cases hc : s == wd with
      | true =>
        have Hk := Lib.hid (Hy.out hc)
        go_wp2_with fail
        (try simp only [Exit.inBlock, Exit.then])
        go_ret
        exact ⟨by rw [Hk.out]; rfl, HB.out⟩
      | false =>
        have HK2 := Lib.hid (Hn.out hc)
        go_wp2_with fail
        go_roundg (7 - (k + 1))
        case measure => omega
        case rel => exact ⟨k + 1, by omega, by go_num, rfl, HK2⟩
    · obtain rfl : k = 7 := by omega
      have Hk := Lib.hid HK.out.fin
      go_wp2_with fail
      go_ret
      exact ⟨by rw [Hk.out]; rfl, HB.out⟩
/-! ### Lines -/
def StrsIn (w : World) (v : Value) (ls : List (List UInt8)) : Prop := RowAt w 9 v ls.length (ls.map S)
def lineKeep (l : List UInt8) : Bool := l.head? != none && l.head? != some 35
theorem linesOf_eq (text : List UInt8) : linesOf text = ((partsAt 10 text).map trimS).filter lineKeep := rfl
theorem take_next {α : Type} {l : List α} {k : Nat} {x : α} (h : l[k]? = some x) : l.take (k + 1) = l.take k ++ [x] := by
  rw [List.take_add_one, h]; rfl
set_option maxRecDepth 100000 in
set_option maxHeartbeats 4000000 in
theorem lines_any (text : List UInt8) (hl : text.length ≤ 1000000) (w : World) (h : HasMax w) :
    Calls Tryz.prog 51 #[S text] w fun e w' => Below w.heap.size w w' ∧ ((65536 < text.length ∧ e = .returned (.tuple #[.slice none 0 0, .bool false])) ∨
      (text.length ≤ 65536 ∧ ∃ v, e = .returned (.tuple #[v, .bool true]) ∧ StrsIn w' v (linesOf text))) := by
  by_cases hlen : 65536 < text.length
  · have hlen' : (65536 : Int) < text.length := by omega
    go_enter Tryz.func51, Tryz.ntmps51
    go_wp2_with fail
    refine bodyPost_ret (results_tmp2 rfl _ _ _) rfl ?_
    exact ⟨Below.refl _ _, .inl ⟨hlen, rfl⟩⟩
  have hlen' : ¬ (65536 : Int) < text.length := by omega
  have Hlen : Hid (text.length ≤ 65536) := by show _ ≤ _; omega
  obtain ⟨f, hf⟩ : ∃ f, partsAt 10 text = f := ⟨_, rfl⟩
  have Hsp := Lib.hid (split_any 10 text hl w h)
  have hpl := partsAt_len 10 text
  have hpe := partsAt_each 10 text
  have HLo : Hid (linesOf text = (f.map trimS).filter lineKeep) := by show _ = _; rw [linesOf_eq, hf]
  rw [hf] at Hsp hpl hpe
  have Hpe := Lib.hid hpe
  have hfl : f.length ≤ 65537 := by omega
  obtain ⟨qb, hqb⟩ : ∃ qb, qb = w.heap.size := ⟨_, rfl⟩
  obtain ⟨w1, hw1⟩ : ∃ w1 : World, w1 = w.alloc (.cells (f.map S).toArray 9) := ⟨_, rfl⟩
  have HQ : Hid (Blk w1 qb (f.map S).toArray 9) := by rw [hw1, hqb]; exact Blk.new _ _ _
  have HB1 : Hid (Below w.heap.size w w1) := by rw [hw1]; exact (Below.refl _ w).alloc (Nat.le_refl _) _
  obtain ⟨i0, hi0, hz0, hz1, hz2⟩ := info_parts info_str
  have Hi0 := Lib.hid hi0; have Hz0 := Lib.hid hz0; have Hz1 := Lib.hid hz1; have Hz2 := Lib.hid hz2
  clear h hf hpl hpe hi0 hz0 hz1 hz2
  go_enter Tryz.func51, Tryz.ntmps51
  go_wp2_with fail
  refine Hsp.out.mono ?_
  rintro e w1' ⟨rfl, rfl⟩
  rw [← hw1, ← hqb]
  have Hqb := Lib.hid hqb
  clear hw1 hqb Hsp
  go_wp2_with fail
  go_loopg [4, 6, 13] f.length (fun g v _ vi wx => ∃ k : Nat, k + g = f.length ∧ vi = .int .i64 k ∧ Hid (wx.ownsRow (qb + 1) 9 1 v (((f.take k).map trimS).filter lineKeep).length ((((f.take k).map trimS).filter lineKeep).map S)) ∧ Hid (Below w.heap.size w wx) ∧ Hid (Blk wx qb (f.map S).toArray 9))
  case atStart => exact ⟨0, by omega, rfl, Lib.hid (World.ownsRow_nil _ _ _ _), HB1, HQ⟩
  case round =>
    obtain ⟨k, hk, rfl, HR, HB, HQ⟩ := hrel
    by_cases hlt : k < f.length
    · have hlt' : (k : Int) < f.length := by omega
      obtain ⟨s, hs⟩ : ∃ s, f[k]? = some s := ⟨_, List.getElem?_eq_getElem hlt⟩
      have hcs : wr.cell? ⟨qb, k, none⟩ = some (S s) := by
        rw [HQ.out.cell]
        simp only [List.getElem?_toArray, List.getElem?_map, hs]
        rfl
      have hsl : s.length ≤ 65536 := Nat.le_trans (Hpe.out s (List.mem_of_getElem? hs)) Hlen.out
      have HT := Lib.hid (take_next hs)
      obtain ⟨t, ht⟩ : ∃ t, trimS s = t := ⟨_, rfl⟩
      have Htr := Lib.hid (trim1_any s (by omega) wr)
      rw [ht] at Htr
      have Ht := Lib.hid ht
      obtain ⟨R, hR⟩ : ∃ R, ((f.take k).map trimS).filter lineKeep = R := ⟨_, rfl⟩
      have HN : Hid (((f.take (k + 1)).map trimS).filter lineKeep = R ++ (if lineKeep t = true then [t] else [])) := by
        show _ = _
        rw [HT.out, List.map_append, List.filter_append, hR]
        show _ ++ List.filter lineKeep [trimS s] = _
        rw [Ht.out]
        by_cases hk : lineKeep t = true
        · rw [if_pos hk, List.filter_cons, if_pos hk]; rfl
        · rw [if_neg hk, List.filter_cons, if_neg hk]; rfl
      have hRl : R.length ≤ k := by
        rw [← hR]
        refine Nat.le_trans (List.length_filter_le _ _) ?_
        rw [List.length_map, List.length_take]; omega
      rw [hR] at HR
      clear hs ht hR
      go_wp2_with fail
      refine Htr.out.mono ?_
      rintro e w2 ⟨rfl, hb2⟩
      have HB2 := Lib.hid (bel_from HB.out hb2)
      have HQ2 := Lib.hid (HQ.out.below hb2 HQ.out.lt)
      have HR2 := Lib.hid (row_kept HR.out (T := fun _ => False) (Kept.of_below hb2) (fun _ _ h => h))
      clear hb2 hcs HB HQ HR Htr
      cases t with
      | nil =>
        have HN2 : Hid (((f.take (k + 1)).map trimS).filter lineKeep = R) := by show _ = _; rw [HN.out]; exact List.append_nil R
        go_wp2_with fail
        go_roundg (f.length - (k + 1))
        case measure => omega
        case rel => exact ⟨k + 1, by omega, by go_num, by rw [HN2.out]; exact HR2, HB2, HQ2⟩
      | cons c t =>
        have h0 : ∀ hh, (({ data := (c :: t).toArray } : ByteArray)[0]'hh) = c := fun _ => rfl
        have hne : ((c :: t) != ([] : List UInt8)) = true := rfl
        have hle : (0 : Int) < ((c :: t).length : Int) := by simp
        by_cases hc : c = 35
        · subst hc
          have HN2 : Hid (((f.take (k + 1)).map trimS).filter lineKeep = R) := by show _ = _; rw [HN.out]; exact List.append_nil R
          go_wp2_with fail
          go_roundg (f.length - (k + 1))
          case measure => omega
          case rel => exact ⟨k + 1, by omega, by go_num, by rw [HN2.out]; exact HR2, HB2, HQ2⟩
        · have hcn : ((c.toNat : Int) != 35) = true := by
            have : c.toNat ≠ 35 := fun e => hc (UInt8.toNat_inj.1 e)
            simp; omega
          have HN2 : Hid (((f.take (k + 1)).map trimS).filter lineKeep = R ++ [c :: t]) := by
            show _ = _
            rw [HN.out, if_pos]
            unfold lineKeep
            simp [hc]
          have hrl : qb + 1 ≤ w2.heap.size := by have := HQ2.out.lt; omega
          clear hc
          go_wp2_with (at_builtin; refine wpList_append_own _ rfl _ _ 41 rfl (qb + 1) 9 i0 (.string ByteArray.empty) 1 16 Tryz.underlying41 Hi0.out Hz0.out Hz1.out Hz2.out rfl (by decide) _ R.length (R.map S) rfl (HR2.out.alloc _) ⟨w2.heap.size, 0, none⟩ 1 1 [S (c :: t)] rfl rfl (cell_one_new' _ _ _) (fun u hu => by simp at hu; rw [hu]; rfl) (by unfold maxLen; omega) (by omega) (by rw [World.size_alloc]; omega) ?_; intro v6 w6 hown6 hgrow6 _)
          go_roundg (f.length - (k + 1))
          case measure => omega
          case rel =>
            refine ⟨k + 1, by omega, by go_num, ?_, ?_, ?_⟩
            · rw [HN2.out, List.length_append, List.map_append]; exact hown6
            · exact Lib.hid ((HB2.out.alloc HB2.out.size _).grown hgrow6 (by rw [World.size_alloc]; have := HB2.out.size; omega) (fun b hb => by have := (HR2.out.lt b hb).1; have := Hqb.out; omega))
            · refine Lib.hid (Blk.below' (HQ2.out.alloc _) (kept_grown hgrow6) (fun e => ?_))
              have := (HR2.out.lt qb e).1; omega
    · obtain rfl : k = f.length := by omega
      rw [List.take_length] at HR
      go_wp2_with fail
      refine bodyPost_ret (results_tmp2 rfl _ _ _) rfl ?_
      exact ⟨HB.out, .inr ⟨Hlen.out, _, rfl, by unfold StrsIn; rw [HLo.out]; exact RowAt.own HR.out⟩⟩
end Go.Proofs.YtjjnidbggoaonaaGreatDoor
