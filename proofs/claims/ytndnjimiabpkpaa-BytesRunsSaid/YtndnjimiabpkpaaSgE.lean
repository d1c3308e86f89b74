/- Contracts of segments: Copy, from one segment to another of the same pool. -/
import Derived.Test.YtndnjimiabpkpaaSgD
namespace Go.Proofs.Ytndnjimiabpkpaa
open Go.RowKit
attribute [local irreducible] World.setCell World.alloc World.drew World.setRow Calls Code.wp row

theorem scopy_no (sb si tb ti pb db ob : Nat) (cs ct : Array Value) (lo lt : Nat) (v u : Value) (L M : List Int) (P : Pool) (o' : Int) (off at_ n : Int) (w : World) (hS : SegAt w sb si cs lo v L) (hT : SegAt w tb ti ct lt u M) (hP : PoolAt w pb db ob P) (hI : SegIn P o' M)
    (hf : (segW M at_ n && segW L off n) = false) :
    Calls Try.prog 59 #[.pointer (some ⟨sb, si, none⟩), .pointer (some ⟨pb, 0, none⟩), .int .i64 off, .pointer (some ⟨tb, ti, none⟩), .int .i64 at_, .int .i64 n] w fun e w' => e = .returned (.bool false) ∧ Below w.heap.size w w' := by
  have HS := Lib.hid hS; have HT := Lib.hid hT; have HP := Lib.hid hP; have HI := Lib.hid hI
  clear hS hT hP hI
  cases hm : segW M at_ n
  · have Hm := Lib.hid hm
    clear hf hm
    go_enter Try.func59, Try.ntmps59
    go_wp2_with fail
    refine (sread_no tb ti pb ct lt u M _ _ _ HT.out Hm.out).mono ?_
    rintro e w' ⟨rfl, rfl⟩
    go_wp2_with fail
    go_ret
    exact ⟨rfl, Below.refl _ _⟩
  · have hl : segW L off n = false := by rw [hm] at hf; simpa using hf
    obtain ⟨f1, f2, f3, f4⟩ := (segW_iff _ _ _).1 hm
    obtain ⟨q, rfl⟩ : ∃ q : Nat, at_ = (q : Int) := ⟨at_.toNat, by omega⟩
    obtain ⟨m, rfl⟩ : ∃ m : Nat, n = (m : Int) := ⟨n.toNat, by omega⟩
    have Hm := Lib.hid hm; have Hl := Lib.hid hl
    clear hf hm hl f1 f2 f3 f4
    go_enter Try.func59, Try.ntmps59
    go_wp2_with fail
    refine (sread_yes tb ti pb db ob ct lt u M P o' q m _ HT.out HP.out HI.out Hm.out).mono ?_
    rintro e w2 ⟨r, rfl, hown, hb2⟩
    have Hb2 := Lib.hid hb2
    have HS2 := Lib.hid (HS.out.below hb2)
    obtain ⟨A, C, rfl⟩ : ∃ A C, r = .slice A m C := by
      rcases hown.2 with ⟨e, h0⟩ | ⟨g, cap, cur, e, _⟩
      · exact ⟨none, 0, by rw [e, h0]⟩
      · exact ⟨_, _, e⟩
    clear hown hb2
    go_wp2_with fail
    refine (swrite_no sb si pb cs lo v L off _ m _ _ HS2.out Hl.out).mono ?_
    rintro e w3 ⟨rfl, rfl⟩
    go_wp2_with fail
    go_ret
    exact ⟨rfl, Hb2.out⟩

set_option maxHeartbeats 1000000 in
theorem scopy_yes (sb si tb ti pb db ob : Nat) (cs ct : Array Value) (lo lt : Nat) (v u : Value) (L M : List Int) (P : Pool) (o o' : Int) (q p m : Nat) (w : World) (hS : SegAt w sb si cs lo v L) (hT : SegAt w tb ti ct lt u M) (hP : PoolAt w pb db ob P) (hI : SegIn P o L) (hJ : SegIn P o' M)
    (hm : segW M p m = true) (hl : segW L q m = true) (n1 : ¬ PS pb db ob sb) (n2 : ∀ g, v.ownBlock = some g → ¬ PS pb db ob g) :
    Calls Try.prog 59 #[.pointer (some ⟨sb, si, none⟩), .pointer (some ⟨pb, 0, none⟩), .int .i64 q, .pointer (some ⟨tb, ti, none⟩), .int .i64 p, .int .i64 m] w fun e w' =>
      e = .returned (.bool true) ∧ ∃ P', PoolAt w' pb db ob P' ∧ SegPut P P' L q m (fun j => segD P M (p + j)) ∧ Kept (PS pb db ob) w w' := by
  have HS := Lib.hid hS; have HT := Lib.hid hT; have HP := Lib.hid hP; have HI := Lib.hid hI; have HJ := Lib.hid hJ; have Hm := Lib.hid hm; have Hl := Lib.hid hl; have Hbd := Lib.hid hP.bd
  clear hS hT hP hI hJ hm hl
  go_enter Try.func59, Try.ntmps59
  go_wp2_with fail
  refine (sread_yes tb ti pb db ob ct lt u M P o' p m _ HT.out HP.out HJ.out Hm.out).mono ?_
  rintro e w2 ⟨r, rfl, hown, hb2⟩
  have hps : ∀ k, PS pb db ob k → k < w.heap.size := by
    rintro k (e | e | e) <;> subst e
    · exact HP.out.hp.lt
    · exact HP.out.hd.lt
    · exact HP.out.ho.lt
  obtain ⟨A, C, rfl, hmC, hC, hby⟩ : ∃ A C, r = .slice A m C ∧ m ≤ C ∧ C ≤ maxLen ∧ ∀ w', Kept (PS pb db ob) w2 w' → BytesIn w' A m (fun j => segD P M (p + j)) := by
    rcases hown.2 with ⟨e, h0⟩ | ⟨g, cap, cur, e, hg, hgh, hgc, hgm, _⟩
    · exact ⟨none, 0, by rw [e, h0], by omega, by unfold maxLen; omega, fun _ _ => .inl h0⟩
    · refine ⟨_, _, e, hgc, hgm, fun w' hk => .inr ⟨g, 0, rfl, fun j hj => ?_⟩⟩
      subst e
      have hgl : g < w2.heap.size := (Array.getElem?_eq_some_iff.1 hgh).1
      have e1 : w'.cell? ⟨g, 0 + j, none⟩ = w2.cell? ⟨g, 0 + j, none⟩ := World.cell?_of_block (hk.block g hgl (fun e => by have := hps g e; omega))
      rw [e1, Nat.zero_add, hown.cellAt j (by omega)]; simp [segC, hj]
  have Hby := Lib.hid hby
  have HP2 := Lib.hid (HP.out.below hb2)
  have Hb2 := Lib.hid hb2
  have HS2 := Lib.hid (HS.out.below hb2)
  clear hown hb2 hps hby
  go_wp2_with fail
  refine (swrite_yes sb si pb db ob cs lo v L P o q _ m _ (fun j => segD P M (p + j)) _ HS2.out HP2.out HI.out Hl.out Hby.out (fun j => Hbd.out _) hmC hC n1 n2).mono ?_
  rintro e w3 ⟨rfl, P', hP3, hD3, hK3⟩
  have HP3 := Lib.hid hP3; have HD3 := Lib.hid hD3; have HK3 := Lib.hid ((Kept.of_below (S := PS pb db ob) Hb2.out).trans hK3)
  clear hP3 hD3 hK3
  go_wp2_with fail
  go_ret
  exact ⟨rfl, P', HP3.out, HD3.out, HK3.out⟩
end Go.Proofs.Ytndnjimiabpkpaa
