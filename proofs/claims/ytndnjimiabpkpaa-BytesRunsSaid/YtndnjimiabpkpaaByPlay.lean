/- play of layer 14, all kinds; light: are calls few, with short data? -/
import Derived.Test.YtndnjimiabpkpaaByP0
import Derived.Test.YtndnjimiabpkpaaByP1
import Derived.Test.YtndnjimiabpkpaaByP2
import Derived.Test.YtndnjimiabpkpaaByP3
import Derived.Test.YtndnjimiabpkpaaByP4
import Derived.Test.YtndnjimiabpkpaaByP5
import Derived.Test.YtndnjimiabpkpaaByP6
import Derived.Test.YtndnjimiabpkpaaPgCalls
import Derived.Deep.LoopGhost
namespace Go.Proofs.Ytndnjimiabpkpaa
open Go.RowKit
attribute [local irreducible] World.setCell World.alloc World.drew World.setRow Calls Code.wp row

theorem play14_any (base sb mb pb db ob lo : Nat) (v x : Nat → Value) (L : Nat → List Int) (P : Pool) (kd wh off nn at_ xx : Int) (da : Option Addr) (dl dc : Nat) (dB : Nat → Int) (w0 w : World) (hT : Two w base sb mb pb db ob lo v x L P) (hbel : Below base w0 w)
    (ho : (Lit.int .i64 off).wf = true) (hn : (Lit.int .i64 nn).wf = true) (ha : (Lit.int .i64 at_).wf = true) (hx : (Lit.int .u64 xx).wf = true)
    (hB : ∀ w', Below base w0 w' → BytesIn w' da dl dB) (hBd : ∀ j, 0 ≤ dB j ∧ dB j ≤ 255) (hdl : dl ≤ 300) (hdc : dl ≤ dc) (hdm : dc ≤ maxLen) :
    Calls Try.prog 40 #[.pointer (some ⟨pb, 0, none⟩), .slice (some ⟨sb, 0, none⟩) 2 2, .slice (some ⟨mb, 0, none⟩) 2 2, .agg #[.int .i64 kd, .int .i64 wh, .int .i64 off, .int .i64 nn, .int .i64 at_, .int .u64 xx, .slice da dl dc]] w fun e w' =>
      e = .returned (.bool true) ∧ PlayPost w0 base sb mb pb db ob lo w' := by
  obtain ⟨q0, q1⟩ := tmod_bd kd 7 (by omega)
  rcases (show (kd.tmod 7 + 7) % 7 = 0 ∨ (kd.tmod 7 + 7) % 7 = 1 ∨ (kd.tmod 7 + 7) % 7 = 2 ∨ (kd.tmod 7 + 7) % 7 = 3 ∨ (kd.tmod 7 + 7) % 7 = 4 ∨ (kd.tmod 7 + 7) % 7 = 5 ∨ (kd.tmod 7 + 7) % 7 = 6 by omega) with h | h | h | h | h | h | h
  · exact play14_0 base sb mb pb db ob lo v x L P kd wh off nn at_ xx da dl dc dB w0 w hT hbel h ho hn ha hx hB hBd hdl hdc hdm
  · exact play14_1 base sb mb pb db ob lo v x L P kd wh off nn at_ xx da dl dc dB w0 w hT hbel h ho hn ha hx hB hBd hdl hdc hdm
  · exact play14_2 base sb mb pb db ob lo v x L P kd wh off nn at_ xx da dl dc dB w0 w hT hbel h ho hn ha hx hB hBd hdl hdc hdm
  · exact play14_3 base sb mb pb db ob lo v x L P kd wh off nn at_ xx da dl dc dB w0 w hT hbel h ho hn ha hx hB hBd hdl hdc hdm
  · exact play14_4 base sb mb pb db ob lo v x L P kd wh off nn at_ xx da dl dc dB w0 w hT hbel h ho hn ha hx hB hBd hdl hdc hdm
  · exact play14_5 base sb mb pb db ob lo v x L P kd wh off nn at_ xx da dl dc dB w0 w hT hbel h ho hn ha hx hB hBd hdl hdc hdm
  · exact play14_6 base sb mb pb db ob lo v x L P kd wh off nn at_ xx da dl dc dB w0 w hT hbel h ho hn ha hx hB hBd hdl hdc hdm

def LightPost (n : Nat) (X : Nat → Call14) (w : World) (e : Ending) (w' : World) : Prop := ∃ b : Bool, e = .returned (.bool b) ∧ (b = true → n ≤ 120 ∧ ∀ j, j < n → (X j).m ≤ 300) ∧ Below w.heap.size w w'
set_option maxHeartbeats 1000000 in
theorem light14_any (a0 : Option Addr) (len cap : Nat) (X : Nat → Call14) (w : World) (hr : Call14s w a0 len cap X) :
    Calls Try.prog 39 #[.slice a0 len cap] w (LightPost len X w) := by
  obtain ⟨b, off, hix, hblt, hmax, hcell⟩ := hr
  have hmax : len ≤ 9223372036854775807 := by unfold maxLen at hmax; omega
  have Hix := Lib.hid hix; clear hix
  have Hcell := Lib.hid hcell; clear hcell
  have Hblt := Lib.hid hblt; clear hblt
  by_cases hlen : 120 < len
  · go_enter Try.func39, Try.ntmps39
    go_wp2_with fail
    go_ret
    exact ⟨false, rfl, (fun h => by cases h), Below.refl _ _⟩
  · go_enter Try.func39, Try.ntmps39
    go_wp2_with fail
    go_loopg [10] len (fun g i wx => ∃ j : Nat, j + g = len ∧ i = .int .i64 j ∧ Below w.heap.size w wx ∧ ∀ k, k < j → (X k).m ≤ 300)
    case atStart => exact ⟨0, by omega, rfl, Below.refl _ _, fun _ h => absurd h (by omega)⟩
    case round =>
      obtain ⟨j, hj, rfl, hb, hm⟩ := hrel
      have Hb := Lib.hid hb; have Hm := Lib.hid hm
      have hsz := hb.size
      clear hb hm
      by_cases hlt : j < len
      · have hix := Hix.out j hlt
        obtain ⟨⟨c0, c1, c2, c3, c4, c5, c6⟩, -, ⟨hv, -, -, -, -⟩⟩ := Hcell.out j hlt
        have hbl := Hblt.out (by omega)
        rw [← Hb.out.cell (p := ⟨b, off + j * 7, none⟩) hbl] at c0
        rw [← Hb.out.cell (p := ⟨b, off + j * 7 + 1, none⟩) hbl] at c1
        rw [← Hb.out.cell (p := ⟨b, off + j * 7 + 2, none⟩) hbl] at c2
        rw [← Hb.out.cell (p := ⟨b, off + j * 7 + 3, none⟩) hbl] at c3
        rw [← Hb.out.cell (p := ⟨b, off + j * 7 + 4, none⟩) hbl] at c4
        rw [← Hb.out.cell (p := ⟨b, off + j * 7 + 5, none⟩) hbl] at c5
        rw [← Hb.out.cell (p := ⟨b, off + j * 7 + 6, none⟩) hbl, hv] at c6
        clear hv
        obtain ⟨dm, hdm⟩ : ∃ dm, (X j).m = dm := ⟨_, rfl⟩
        have Hdm := Lib.hid hdm
        rw [hdm] at c6
        clear hdm
        generalize (X j).kd = kd at *; generalize (X j).wh = wh at *; generalize (X j).off = of at *; generalize (X j).nn = nn at *; generalize (X j).at_ = at_ at *; generalize (X j).xx = xx at *
        generalize (X j).a = da at *; generalize (X j).c = dc at *
        by_cases hd : 300 < dm
        · go_wp2_with fail
          go_ret
          exact ⟨false, rfl, (fun h => by cases h), Hb.out.alloc hsz _⟩
        · go_wp2_with fail
          go_roundg (len - (j + 1))
          case measure => omega
          case rel => exact ⟨j + 1, by omega, by go_num, Hb.out.alloc hsz _, fun k hk => by
            by_cases e : k = j
            · subst e; have := Hdm.out; omega
            · exact Hm.out k (by omega)⟩
      · obtain rfl : j = len := by omega
        go_wp2_with fail
        go_ret
        exact ⟨true, rfl, fun _ => ⟨by omega, Hm.out⟩, Hb.out⟩
end Go.Proofs.Ytndnjimiabpkpaa
