/- trace.Event: a step's text. -/
import Derived.Test.YtjjnidbggoaonaaDoorTrB
import Derived.Lib.ItoaLen
import Derived.Deep.RegionHeld3
namespace Go.Proofs.YtjjnidbggoaonaaDoor
open Go.RowKit
attribute [local irreducible] World.setCell World.alloc World.drew Calls Code.wp

def wordText : List UInt8 := [105, 100, 108, 101, 32, 117, 115, 101, 114, 32, 109, 105, 99, 114, 111, 32, 99, 111, 109, 109, 105, 116, 32, 119, 111, 107, 101, 110, 32, 102, 97, 105, 108, 101, 100, 32, 97, 103, 97, 105, 110]
def wordsL : List (List UInt8) := [[105, 100, 108, 101], [117, 115, 101, 114], [109, 105, 99, 114, 111], [99, 111, 109, 109, 105, 116], [119, 111, 107, 101, 110], [102, 97, 105, 108, 101, 100], [97, 103, 97, 105, 110]]
theorem words_fields : Lib.fields wordText = wordsL := by decide +kernel
theorem words_ascii : ∀ (j : Nat) (b : UInt8), wordText[j]? = some b → b.toNat < 128 := by
  intro j b h
  have h1 : wordText.all (fun b => decide (b.toNat < 128)) = true := by decide +kernel
  have := List.all_eq_true.1 h1 b (List.mem_of_getElem? h)
  simpa using this
def wordsV : Array Value := (wordsL.map fun l => S l).toArray
def wd (k : Nat) : List UInt8 := wordsL.getD k []
theorem wordsV_at (k : Nat) (h : k < 7) : wordsV[k]? = some (S (wd k)) := by
  have hl : k < wordsL.length := h
  unfold wordsV wd
  simp [hl, List.getD]
theorem wd_len (k : Nat) : (wd k).length ≤ 6 := by
  rcases Nat.lt_or_ge k 7 with h | h
  · have h1 : ∀ k, k < 7 → (wd k).length ≤ 6 := by decide +kernel
    exact h1 k h
  · have : wd k = [] := by
      unfold wd
      rw [List.getD, List.getElem?_eq_none (show wordsL.length ≤ k from h)]; rfl
    rw [this]; simp
theorem fields_words (w : World) (hs : HasSp w) :
    Calls Tryd.prog 10 #[S wordText] w fun e w' => e = .returned (.slice (some ⟨w.heap.size, 0, none⟩) 7 7) ∧ w' = w.alloc (.cells wordsV 9) := by
  refine (Tryd.strings_Fields_laid ⟨wordText.toArray⟩ w (by decide +kernel) (by simpa using words_ascii) hs).mono ?_
  rintro e w' ⟨rfl, rfl⟩
  have h : Lib.fields (ByteArray.mk wordText.toArray).data.toList = wordsL := by simpa using words_fields
  rw [h]
  exact ⟨rfl, rfl⟩

/-- A step's text. -/
def evText (core : Int) (th : Nat) (what : Int) : List UInt8 :=
  if what < 0 ∨ 7 ≤ what ∨ core < 0 then [63] else Lib.itoa core ++ [32] ++ Lib.decDigits th ++ [32] ++ wd what.toNat

set_option maxRecDepth 100000 in
set_option maxHeartbeats 2000000 in
theorem event_any (core : Int) (th : Nat) (what : Int) (w : World) (hp : HasPow w) (hs : HasSp w) (hc1 : core ≤ 9223372036854775807) (hth : th < 18446744073709551616) :
    Calls Tryd.prog 6 #[.agg #[.int .i64 core, .int .u64 th, .int .i64 what]] w fun e w' => e = .returned (S (evText core th what)) ∧ Below w.heap.size w w' := by
  have Hs := Lib.hid (Lib.tabIs_alloc hs (.cells #[.int .i64 core, .int .u64 th, .int .i64 what] 24))
  have Hp := Lib.hid hp
  have Hf := Lib.hid (fun w (h : HasSp w) => fields_words w h)
  clear hp hs
  go_enter Tryd.func6, Tryd.ntmps6
  go_wp2_with fail
  refine (Hf.out _ Hs.out).mono ?_
  rintro e w1 ⟨rfl, rfl⟩
  obtain ⟨cb, hcb⟩ : ∃ cb, cb = w.heap.size := ⟨_, rfl⟩
  obtain ⟨w2, hw2⟩ : ∃ w2 : World, w2 = (w.alloc (.cells #[.int .i64 core, .int .u64 th, .int .i64 what] 24)).alloc (.cells wordsV 9) := ⟨_, rfl⟩
  have HC : Hid (Blk w2 cb #[.int .i64 core, .int .u64 th, .int .i64 what] 24) := by rw [hw2, hcb]; exact (Blk.new _ _ _).alloc _
  have HW : Hid (Blk w2 (cb + 1) wordsV 9) := by rw [hw2, hcb]; have := Blk.new (w.alloc (.cells #[.int .i64 core, .int .u64 th, .int .i64 what] 24)) wordsV 9; rw [World.size_alloc] at this; exact this
  have HB : Hid (Below w.heap.size w w2) := by rw [hw2]; exact ((Below.refl _ _).alloc (Nat.le_refl _) _).alloc (by simp) _
  try simp only [World.size_alloc]
  rw [← hw2, ← hcb]
  have Hcb : Hid (cb = w.heap.size) := hcb
  have hcc := HC.out.cell
  clear hw2 hcb
  by_cases h1 : what < 0
  · go_wp2_with fail
    go_ret
    exact ⟨by unfold evText; rw [if_pos (.inl h1)]; rfl, HB.out⟩
  · by_cases h2 : 7 ≤ what
    · go_wp2_with fail
      go_ret
      exact ⟨by unfold evText; rw [if_pos (.inr (.inl h2))]; rfl, HB.out⟩
    · by_cases h3 : core < 0
      · go_wp2_with fail
        go_ret
        exact ⟨by unfold evText; rw [if_pos (.inr (.inr h3))]; rfl, HB.out⟩
      · obtain ⟨k, rfl⟩ : ∃ k : Nat, what = (k : Int) := ⟨what.toNat, by omega⟩
        have hk : k < 7 := by omega
        have Ht : Hid (evText core th k = Lib.itoa core ++ [32] ++ Lib.decDigits th ++ [32] ++ wd k) := by
          show evText core th k = _
          unfold evText; rw [if_neg (by omega)]; rfl
        have Hi := Lib.hid (fun w (h : HasPow w) => itoa_any core (by omega) hc1 w h)
        have Hu := Lib.hid (fun w (h : HasPow w) => fmtu_any th hth w h)
        have l1 := Lib.itoa_length_le (n := core) (by omega) (by omega)
        have l2 := dec_len20 th hth
        have l3 := wd_len k
        have a1 := run_sadd (P := Tryd.prog) (Lib.itoa core) [32] (by simp; omega)
        have a2 := run_sadd (P := Tryd.prog) (Lib.itoa core ++ [32]) (Lib.decDigits th) (by simp; omega)
        have a3 := run_sadd (P := Tryd.prog) (Lib.itoa core ++ 32 :: Lib.decDigits th) [32] (by simp; omega)
        have a4 := run_sadd (P := Tryd.prog) (Lib.itoa core ++ 32 :: (Lib.decDigits th ++ [32])) (wd k) (by simp; omega)
        have HSS : Hid (∀ w', Below w2.heap.size w2 w' → w'.cell? ⟨cb, 0, none⟩ = some (.int .i64 core) ∧ w'.cell? ⟨cb, 1, none⟩ = some (.int .u64 th) ∧ w'.cell? ⟨cb, 2, none⟩ = some (.int .i64 k) ∧ w'.cell? ⟨cb + 1, k, none⟩ = some (S (wd k))) := fun w' hb => by
          have h1 := HC.out.below hb HC.out.lt
          refine ⟨h1.cell 0, h1.cell 1, h1.cell 2, ?_⟩
          rw [(HW.out.below hb HW.out.lt).cell]; exact wordsV_at k hk
        have Hdr2 : Hid (Below w2.heap.size w2 w2.drew) := (Below.refl _ _).drew
        have HP2 : Hid (HasPow w2.drew) := Hp.out.below (bel_from HB.out Hdr2.out)
        go_wp2_with fail
        go_region_held3 (fun w' => w'.cell? ⟨cb, 0, none⟩ = some (.int .i64 core) ∧ w'.cell? ⟨cb, 1, none⟩ = some (.int .u64 th) ∧ w'.cell? ⟨cb, 2, none⟩ = some (.int .i64 k) ∧ w'.cell? ⟨cb + 1, k, none⟩ = some (S (wd k)))
          (first
            | exact HSS.out _ Hdr2.out
            | exact HSS.out _ (bel_from Hdr2.out hb3)
            | exact HSS.out _ (bel_from (bel_from Hdr2.out hb3) hb4))
          (first
            | (refine (Hi.out _ HP2.out).mono ?_; rintro e w3 ⟨rfl, hb3⟩)
            | (refine (Hu.out _ (HP2.out.below hb3)).mono ?_; rintro e w4 ⟨rfl, hb4⟩))
        go_wp2_with fail
        go_ret
        refine ⟨?_, bel_from (bel_from (bel_from HB.out Hdr2.out) hb3) hb4⟩
        rw [Ht.out]
        refine congrArg (fun b => Ending.returned (.string b)) (show (⟨(Lib.itoa core ++ 32 :: (Lib.decDigits th ++ 32 :: wd k)).toArray⟩ : ByteArray) = ⟨(Lib.itoa core ++ [32] ++ Lib.decDigits th ++ [32] ++ wd k).toArray⟩ from ?_)
        apply ByteArray.ext
        simp
end Go.Proofs.YtjjnidbggoaonaaDoor
