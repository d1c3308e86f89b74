/- Contracts of segments: Read. -/
import Derived.Test.YtndnjimiabpkpaaSgA
namespace Go.Proofs.Ytndnjimiabpkpaa
open Go.RowKit
attribute [local irreducible] World.setCell World.alloc World.drew World.setRow Calls Code.wp row

theorem sread_no (sb si pb : Nat) (cs : Array Value) (lo : Nat) (v : Value) (L : List Int) (off n : Int) (w : World) (hS : SegAt w sb si cs lo v L) (hf : segW L off n = false) :
    Calls Try.prog 30 #[.pointer (some ⟨sb, si, none⟩), .pointer (some ⟨pb, 0, none⟩), .int .i64 off, .int .i64 n] w fun e w' => e = .returned (.tuple #[.slice none 0 0, .bool false]) ∧ w = w' := by
  have HS := Lib.hid hS; have Hf := Lib.hid hf; clear hS hf
  go_enter Try.func30, Try.ntmps30
  go_wp2_with fail
  refine (within_any sb si cs lo v L _ _ _ HS.out).mono ?_
  rintro e w' ⟨rfl, rfl⟩
  rw [Hf.out]
  go_wp2_with fail
  go_ret2
  exact ⟨rfl, rfl⟩

/-- n bytes of a segment from off on, as cells. -/
def segC (P : Pool) (L : List Int) (off n : Nat) : List Value := (List.range n).map fun j => Value.int .u8 (segD P L (off + j))

theorem segC_add (P : Pool) (L : List Int) (q d k : Nat) : segC P L q (d + k) = segC P L q d ++ (List.range k).map fun j => Value.int .u8 (segD P L (q + d + j)) := by
  unfold segC
  rw [List.range_add, List.map_append, List.map_map]
  congr 1
  refine List.map_congr_left fun j _ => ?_
  simp [Nat.add_assoc]

set_option maxRecDepth 100000 in
set_option maxHeartbeats 2000000 in
theorem sread_yes (sb si pb db ob : Nat) (cs : Array Value) (lo : Nat) (v : Value) (L : List Int) (P : Pool) (o : Int) (q m : Nat) (w : World) (hS : SegAt w sb si cs lo v L) (hP : PoolAt w pb db ob P) (hI : SegIn P o L) (hf : segW L q m = true) :
    Calls Try.prog 30 #[.pointer (some ⟨sb, si, none⟩), .pointer (some ⟨pb, 0, none⟩), .int .i64 q, .int .i64 m] w fun e w' =>
      ∃ r, e = .returned (.tuple #[r, .bool true]) ∧ w'.ownsRow w.heap.size 5 1 r m (segC P L q m) ∧ Below w.heap.size w w' := by
  obtain ⟨f1, f2, f3, f4⟩ := (segW_iff _ _ _).1 hf
  have hqm : q + m ≤ L.length * 64 := by unfold segS at f3 f4; omega
  have h16 := hS.h16
  obtain ⟨i0, hi, hz0, hz1, hz2⟩ := info_parts info5
  have Hi := Lib.hid hi; have Hz0 := Lib.hid hz0; have Hz1 := Lib.hid hz1; have Hz2 := Lib.hid hz2
  have HS := Lib.hid hS; have HP := Lib.hid hP; have HI := Lib.hid hI; have Hf := Lib.hid hf
  clear hS hP hI hf hi hz0 hz1 hz2 f1 f2 f3 f4
  go_enter Try.func30, Try.ntmps30
  go_wp2_with fail
  refine (within_any sb si cs lo v L _ _ _ HS.out).mono ?_
  rintro e w' ⟨rfl, rfl⟩
  rw [Hf.out]
  go_wp2_with fail
  go_loopg [2, 3, 10, 11] m (fun g so sn u _ wx => ∃ d : Nat, d + g = m ∧ so = .int .i64 ((q + d : Nat) : Int) ∧ sn = .int .i64 ((m - d : Nat) : Int) ∧ wx.ownsRow w.heap.size 5 1 u d (segC P L q d) ∧ Below w.heap.size w wx)
  case atStart => exact ⟨0, by omega, by simp, by simp, World.ownsRow_nil _ _ _ _, Below.refl _ _⟩
  case round =>
    obtain ⟨d, hd, rfl, rfl, hown, hb⟩ := hrel
    have Hown := Lib.hid hown; have Hb := Lib.hid hb
    clear hown hb
    by_cases hlt : d < m
    · obtain ⟨p, hp⟩ : ∃ p, q + d = p := ⟨_, rfl⟩
      obtain ⟨r, hr⟩ : ∃ r, m - d = r := ⟨_, rfl⟩
      obtain ⟨k, hk⟩ : ∃ k, min r (64 - p % 64) = k := ⟨_, rfl⟩
      have hk1 : 1 ≤ k := by omega
      have hk2 : k ≤ r := by omega
      have hk3 : p % 64 + k ≤ 64 := by omega
      have hpl : p / 64 < L.length := by omega
      have hmin : min ((r : Nat) : Int) (64 - ((p : Nat) : Int) % 64) = k := by omega
      rw [hp, hr]
      have hSr := HS.out.below Hb.out
      have hPr := HP.out.below Hb.out
      obtain ⟨a, cap, g, hv, g1, g2, g3, g4⟩ := hSr.hv.open
      have ha := g3 (by omega)
      subst ha
      have hcl := g4 (p / 64) hpl
      have hcs := hSr.cell
      rw [hv] at hcs
      obtain ⟨fr, hfr⟩ : ∃ fr, L.getD (p / 64) 0 = fr := ⟨_, rfl⟩
      rw [hfr] at hcl
      have hmem : fr ∈ L := by rw [← hfr]; exact getD_mem hpl
      obtain ⟨t1, t2⟩ := HI.out.there hmem
      have hfit : P.fits fr ((p % 64 : Nat) : Int) ((k : Nat) : Int) = true := by
        rw [P.fits_iff, HI.out.own fr hmem]
        exact ⟨HI.out.o0, by omega, by omega, by omega, by omega⟩
      have HPr := Lib.hid hPr; have Hfr := Lib.hid hfr; have Hfit := Lib.hid hfit; have Hp := Lib.hid hp; have Hr := Lib.hid hr
      have hszr := Hb.out.size
      have hkc : (r : Int) ≤ 64 - (p : Int) % 64 ∧ k = r ∨ ¬ (r : Int) ≤ 64 - (p : Int) % 64 ∧ k = 64 - p % 64 := by omega
      have e64 : ((p % 64 : Nat) : Int) = (p : Int) % 64 := by omega
      rw [e64] at hfit
      have Hfit := Lib.hid hfit
      have hpn : p ≤ 1024 := by omega
      have hrn : r ≤ 1024 := by omega
      have E64 := Lib.hid e64
      have hk64 : k ≤ 64 := by omega
      have HK : Hid (((k : Nat) : Int) = if (r : Int) ≤ 64 - (p : Int) % 64 then (r : Int) else 64 - (p : Int) % 64) := by
        unfold Hid; split <;> omega
      clear hSr hPr g4 g3 hv hfr hmem hfit hk hmin e64
      have key : ∀ kk : Int, kk = (k : Int) → Calls Try.prog 23 #[.pointer (some ⟨pb, 0, none⟩), .int .i64 fr, .int .i64 ((p : Int) % 64), .int .i64 kk] wr fun e w' =>
          ∃ g' cap', e = .returned (.slice (some ⟨g', 0, none⟩) k cap') ∧ (∀ j, j < k → w'.cell? ⟨g', j, none⟩ = some (.int .u8 (segD P L (p + j)))) ∧ Below wr.heap.size wr w' ∧ wr.heap.size ≤ g' := by
        rintro kk rfl
        refine (read_yes pb db ob P _ _ _ _ HPr.out Hfit.out).mono ?_
        rintro e w5 ⟨r', rfl, ho, hb5⟩
        rw [Int.toNat_natCast] at ho
        obtain ⟨g', cap', cur, rfl, hg, _, _⟩ := ho.2.resolve_left (by rintro ⟨_, h0⟩; omega)
        refine ⟨g', cap', rfl, fun j hj => ?_, hb5, hg⟩
        rw [ho.cellAt j (by omega)]
        have e1 : ((p : Int) % 64).toNat = p % 64 := by omega
        have e2 : (p + j) / 64 = p / 64 := by omega
        have e3 : (p + j) % 64 = p % 64 + j := by omega
        simp only [Pool.cells, segD, e1, e2, e3, Hfr.out]
        rw [List.getElem?_map, List.getElem?_range hj]
        simp [Nat.add_assoc]
      have Key := Lib.hid key; clear key
      rcases hkc with ⟨hc, hkr⟩ | ⟨hc, hkr⟩
      all_goals
        have Hkr := Lib.hid hkr; clear hkr
        go_wp2_with fail
        refine (Key.out _ (by have := Hkr.out; omega)).mono ?_
        rintro e w5 ⟨g', cap', rfl, hcell, hb5, hg'⟩
        have Hcell := Lib.hid hcell; have Hb5 := Lib.hid (Hb.out.trans (hb5.mono hszr))
        have Hown5 : Hid (w5.ownsRow w.heap.size 5 1 u10 d (segC P L q d)) := Hown.out.kept (row := none) ⟨hb5.os, hb5.tape, hb5.output, hb5.size, fun b hb _ => hb5.block b hb⟩ (by by_cases h : u10.ownBlock = none; exact .inl h; exact .inr h)
        have hs5 := hb5.size
        clear hcell hb5
        go_wp2_with (at_builtin; refine wpList_append_own _ rfl _ _ 32 rfl w.heap.size 5 i0 (.int .u8 0) 1 1 Try.underlying32 Hi.out Hz0.out Hz1.out Hz2.out rfl (by decide) _ _ _ rfl Hown5.out ⟨g', 0, none⟩ k cap' ((List.range k).map fun j => Value.int .u8 (segD P L (p + j))) rfl (by simp) (copy_src (o := 0) (by simpa using Hcell.out)) (fun v hv => by obtain ⟨j, _, rfl⟩ := List.mem_map.1 hv; rfl) (by unfold maxLen; omega) (by omega) (by omega) ?_; intro v' w6 hown6 hgrow6 _)
        go_roundg (m - (d + k))
        case measure => have := Hkr.out; omega
        case rel =>
          refine ⟨d + k, by have := Hkr.out; omega, by have := Hkr.out; have := Hp.out; congr 1; omega, by have := Hkr.out; have := Hr.out; congr 1; omega, ?_, Hb5.out.grown hgrow6 (by omega) (fun k hk => (Hown.out.lt k hk).1)⟩
          rw [segC_add, Hp.out]
          exact hown6
    · obtain rfl : d = m := by omega
      go_wp2_with fail
      go_ret2
      exact ⟨_, rfl, Hown.out, Hb.out⟩
end Go.Proofs.Ytndnjimiabpkpaa
