/- Of the proof of this claim: a joined text. -/
import Derived.Test.YtmlcgebahdcmaaaGreatDoorZzPkC
import Derived.Maps.AppendAt
import Derived.Test.YtmlcgebahdcmaaaGreatDoorZzReg
set_option maxRecDepth 100000
set_option maxHeartbeats 4000000
namespace Go.Proofs.YtmlcgebahdcmaaaGreatDoor
open Go.RowKit
theorem infoInt : (Tryz.prog.info? 3).map (fun i => (i.zero, i.size, i.bytes)) = some (some (.int .i64 0), 1, 8) := by kernel_rfl
theorem FrIn.of_own {w : World} {lo : Nat} {v : Value} {L : List Int} {x : Int} (h : w.ownsRow lo 3 1 v (L.length + 1) (L.map (Value.int .i64) ++ [.int .i64 x])) : FrIn w lo v (L ++ [x]) := by
 obtain ⟨g, cap, cur, rfl, h1, h2, h3, h4, h5, h6⟩ := h.2.resolve_left (by rintro ⟨_, h0⟩; omega)
 refine .inr ⟨g, cap, cur, by simp, h1, h2, by simpa using h3, h4, .inl (by omega), by omega, fun j hj => ?_⟩
 have hj' : j < L.length + 1 := by simpa using hj
 have : cur.toList[j]? = (L.map (Value.int .i64) ++ [Value.int .i64 x])[j]? := by
  rw [<- h6, List.getElem?_take, if_pos (by omega)]
 rw [<- Array.getElem?_toList, this]
 have e : L.map (Value.int .i64) ++ [Value.int .i64 x] = (L ++ [x]).map (Value.int .i64) := by simp
 rw [e, List.getElem?_map, List.getElem?_eq_getElem hj]
 simp only [Option.map_some, List.getD, List.getElem?_eq_getElem hj, Option.getD_some]
theorem append_fr {w : World} {lo : Nat} {v : Value} {L : List Int} (x : Int) {nb nc : Nat} (ty : TypeId) (h : FrIn w lo v L) (hlo : lo <= w.heap.size) (hn : w.cell? ⟨nb, 0, none⟩ = some (.int .i64 x)) (h16 : L.length <= 16) :
  ∃ v' w', (Builtin.append_ #[26, 26] ty #[v, .slice (some ⟨nb, 0, none⟩) 1 nc]).run Tryz.prog w = .ok v' w' /\ FrIn w' lo v' (L ++ [x]) /\ Kept (fun k => v.ownBlock = some k) w w' /\ ∀ g, v'.ownBlock = some g -> v.ownBlock = some g \/ w.heap.size <= g := by
 obtain ⟨i0, hi, hz0, hz1, hz2⟩ := info_parts infoInt
 have hnews : ∀ j u, [Value.int .i64 x][j]? = some u -> w.cell? ((⟨nb, 0, none⟩ : Addr).add j) = some u := by
  intro j u h
  have hj : j = 0 := by
   rcases Nat.eq_zero_or_pos j with e | e
   ·exact e
   ·rw [List.getElem?_eq_none (by simp; omega)] at h; cases h
  subst hj
  rw [Addr.add_lit, hn]; simpa using h
 have hown : w.ownsRow lo 3 1 v L.length (L.map (Value.int .i64)) -> ∃ v' w', (Builtin.append_ #[26, 26] ty #[v, .slice (some ⟨nb, 0, none⟩) 1 nc]).run Tryz.prog w = .ok v' w' /\ FrIn w' lo v' (L ++ [x]) /\ Kept (fun k => v.ownBlock = some k) w w' /\ ∀ g, v'.ownBlock = some g -> v.ownBlock = some g \/ w.heap.size <= g := by
  intro ho
  obtain ⟨v', w', hr, ho', hg, _, hb⟩ := run_append_own_at (P := Tryz.prog) w lo 26 ty 3 i0 (.int .i64 0) 1 8 Tryz.underlying26 hi hz0 hz1 hz2 rfl (by decide) v L.length _ ho ⟨nb, 0, none⟩ 1 nc [.int .i64 x] rfl hnews (fun u hu => by simp at hu; subst hu; rfl) (by unfold maxLen; omega) (by omega) hlo
  refine ⟨v', w', hr, FrIn.of_own ho', ⟨hg.os, hg.tape, hg.output, hg.size, fun k hk hs => hg.block k hk (fun e => hs e.symm)⟩, fun g hg' => ?_⟩
  rcases hb with e | e
  ·exact .inl (by rw [<- e]; exact hg')
  ·right; rw [e] at hg'; injection hg' with hg'; omega
 rcases h with ⟨rfl, rfl⟩ | ⟨g, cap, cur, rfl, h1, h2, h3, h4, h5, h6, h7⟩
 ·exact hown (World.ownsRow_nil _ _ _ _)
 ·by_cases hc : cap = cur.size
  ·refine hown ⟨by simp, .inr ⟨g, cap, cur, rfl, h1, h2, h3, h4, by omega, ?_⟩⟩
   refine List.ext_getElem? fun j => ?_
   rw [List.getElem?_take, List.getElem?_map]
   by_cases hj : j < L.length
   ·rw [if_pos (by omega), Array.getElem?_toList, h7 j hj]
    simp [List.getD, hj]
   ·rw [if_neg (by omega)]; simp [Nat.le_of_not_lt hj]
  ·have hcl : cap = L.length := h5.resolve_left hc
   have holds : ∀ j u, (L.map (Value.int .i64))[j]? = some u -> w.cell? ((⟨g, 0, none⟩ : Addr).add j) = some u := by
    intro j u hu
    rw [List.getElem?_map] at hu
    by_cases hj : j < L.length
    ·rw [Addr.add_lit, Nat.zero_add, Blk.cell (b := g) h2, h7 j hj]
     simp [hj] at hu
     rw [<- hu]; simp [List.getD, hj]
    ·simp [Nat.le_of_not_lt hj] at hu
   obtain ⟨v', w', hr, ho', hg⟩ := run_append_arg_grows (P := Tryz.prog) w 26 ty 3 i0 (.int .i64 0) 1 8 Tryz.underlying26 hi hz0 hz1 hz2 rfl (by decide) ⟨g, 0, none⟩ L.length cap (L.map (Value.int .i64)) (by simp) holds ⟨nb, 0, none⟩ 1 nc [.int .i64 x] rfl hnews (by omega) (by unfold maxLen; omega) (by omega)
   have hlow : w'.ownsRow lo 3 1 v' (L.length + 1) (L.map (Value.int .i64) ++ [.int .i64 x]) :=
    ⟨ho'.1, ho'.2.imp id fun ⟨g, cap, cur, h1, h2, h3⟩ => ⟨g, cap, cur, h1, Nat.le_trans hlo h2, h3⟩⟩
   exact ⟨v', w', hr, FrIn.of_own hlow, ⟨hg.os, hg.tape, hg.output, hg.size, fun k hk _ => hg.block k hk (by simp)⟩, fun k hk => .inr (ho'.lt k hk).1⟩
theorem FrIn.cut {w : World} {lo g cap n : Nat} {L : List Int} {f : Int} (h : FrIn w lo (.slice (some ⟨g, 0, none⟩) n cap) (L ++ [f])) : FrIn w lo (.slice (some ⟨g, 0, none⟩) L.length L.length) L := by
 rcases h with ⟨h, _⟩ | ⟨g', cap', cur, e, h1, h2, h3, h4, h5, h6, h7⟩
 ·cases h
 ·injection e with e1 e2 e3
  injection e1 with e1; injection e1 with e1 _ _
  subst e1
  have hl : (L ++ [f]).length = L.length + 1 := by simp
  refine .inr ⟨g, L.length, cur, rfl, h1, h2, Nat.le_refl _, by omega, .inr rfl, by omega, fun j hj => ?_⟩
  rw [h7 j (by omega)]
  simp [List.getD, List.getElem?_append_left hj]
theorem ex_append1 {P : Program} {a : Act} {w w' : World} {d : Option Tmp} {t : TypeId} {p : String} {e : Array Edge} {g : Option (Nat × Bool)} {T : TypeId} {x y : Operand} {u v r : Value} (hx : a.eval x = u) (hy : a.eval y = v) (hr : (Builtin.append_ #[T, T] t #[u, v]).run P w = .ok r w') :
  (execOp a.eval ⟨d, .call { callee := .builtin .append, args := #[x, y], argTypes := #[T, T] }, t, p, e, g⟩).run P w = .ok (.value r) w' := by
 simp only [execOp, resolve, invoke, builtin, Sem.run_bind, Sem.run_pure, Result.andThen_ok, List.map_toArray, List.map_cons, List.map_nil, hx, hy, hr]
end Go.Proofs.YtmlcgebahdcmaaaGreatDoor
namespace Go.Proofs.YtmlcgebahdcmaaaGreatDoor
open Go.RowKit
attribute [local irreducible] World.setCell World.alloc World.drew World.setRow Calls Code.wp row
def RS (pb db ob sb : Nat) (v : Value) : Nat -> Prop := fun k => PS pb db ob k \/ k = sb \/ v.ownBlock = some k
def segR (P : Pool) (L : List Int) (o n : Int) : Bool := decide (0 <= n) && decide (n <= 16) && decide (n <= (L.length : Int) + P.left) && (o != 0)
theorem segR_iff (P : Pool) (L : List Int) (o n : Int) : segR P L o n = true ↔ 0 <= n /\ n <= 16 /\ n <= (L.length : Int) + P.left /\ o ≠ 0 := by simp [segR, and_assoc]
structure Resized (w w' : World) (sb si pb db ob : Nat) (cs : Array Value) (lo : Nat) (v : Value) (L : List Int) (P : Pool) (o : Int) (n : Nat) (v' : Value) (L' : List Int) (P' : Pool) : Prop where
 pool : PoolAt w' pb db ob P'
 seg : SegAt w' sb si (cs.setIfInBounds si v') lo v' L'
 inn : SegIn P' o L'
 len : L'.length = n
 mv : SegMv P P' o
 left : P'.left + n = P.left + L.length
 data : ∀ j, j < n * 64 -> segD P' L' j = if j < L.length * 64 then segD P L j else 0
 first : ∀ i, i < n -> i < L.length -> L'.getD i 0 = L.getD i 0
 kept : Kept (RS pb db ob sb v) w w'
 own : ∀ g, v'.ownBlock = some g -> v.ownBlock = some g \/ w.heap.size <= g
structure YR (w0 : World) (sb si pb db ob : Nat) (cs : Array Value) (lo : Nat) (v : Value) (L : List Int) (P : Pool) (o : Int) (b7 b8 b9 b12 : Option Bool) (t83 t84 : Value) (wx : World) : Prop where
 pool : PoolAt wx pb db ob (if b7 = some true then P.alloc o else P)
 seg : b9 ≠ some true -> SegAt wx sb si cs lo v L
 k0 : Kept (RS pb db ob sb v) w0 wx
 g8 : b8 = some true -> b9 ≠ some true -> ∃ nb, t83 = .slice (some ⟨nb, 0, none⟩) 1 1 /\ wx.cell? ⟨nb, 0, none⟩ = some (.int .i64 (P.allocRet o))
 g9 : b9 = some true -> b12 ≠ some true -> Blk wx sb cs 85 /\ FrIn wx lo t84 (L ++ [P.allocRet o]) /\ ∀ g, t84.ownBlock = some g -> v.ownBlock = some g \/ w0.heap.size <= g
 g12 : b12 = some true -> ∃ v', Blk wx sb (cs.setIfInBounds si v') 85 /\ FrIn wx lo v' (L ++ [P.allocRet o]) /\ ∀ g, v'.ownBlock = some g -> v.ownBlock = some g \/ w0.heap.size <= g
section
variable {P : Program} {a : Act} {w w' : World} {d : Option Tmp} {t : TypeId} {p : String} {e : Array Edge} {g : Option (Nat × Bool)} {x y : Operand} {u v : Value}
theorem ex_store {T : TypeId} (hx : a.eval x = u) (hy : a.eval y = v) (hr : (Instr.storeAt T u v).run P w = .ok () w') : (execOp a.eval ⟨d, .store T x y, t, p, e, g⟩).run P w = .ok .skip w' := by
 simp [execOp, hx, hy, hr, Result.andThen]
theorem ex_nilCheck {q : Addr} (hx : a.eval x = u) (hu : u = .pointer (some q)) : (execOp a.eval ⟨d, .nilCheck x, t, p, e, g⟩).run P w = .ok (.value (.pointer (some q))) w := by
 subst hu
 simp [execOp, hx]
theorem ex_buildSlice1 {T : TypeId} {n : Nat} (hx : a.eval x = u) (hr : (Instr.buildSlice T n #[(0, u)]).run P w = .ok v w') : (execOp a.eval ⟨d, .buildSlice T n #[(0, x)], t, p, e, g⟩).run P w = .ok (.value v) w' := by
 simp [execOp, hx, hr, Result.andThen]
end
theorem seg_0 (b i : Nat) (w : World) : (Instr.fieldAt 78 (.pointer (some ⟨b, i, none⟩)) 0).run Tryz.prog w = .ok (.pointer (some ⟨b, i, none⟩)) w := by go_simp; try rfl
theorem ld_ints {w : World} {q : Addr} {x : Option Addr} {n c : Nat} (h : w.cell? q = some (.slice x n c)) : (Instr.loadAt 26 (.pointer (some q))).run Tryz.prog w = .ok (.slice x n c) w := by go_simp; try rfl
theorem st_ints {w : World} {q : Addr} {v0 : Value} {x : Option Addr} {n c : Nat} (h : w.cell? q = some v0) (hf : w.frozen? q = false) : (Instr.storeAt 26 (.pointer (some q)) (.slice x n c)).run Tryz.prog w = .ok () (w.setCell q (.slice x n c)) := by go_simp; try rfl
theorem build_1 (x : Int) (w : World) : (Instr.buildSlice 26 1 #[(0, .int .i64 x)]).run Tryz.prog w = .ok (.slice (some ⟨w.heap.size, 0, none⟩) 1 1) (w.alloc (.cells #[.int .i64 x] 3)) := by go_simp; try rfl
theorem set_twice (cs : Array Value) (i : Nat) (u v : Value) : (cs.setIfInBounds i u).setIfInBounds i v = cs.setIfInBounds i v := by simp
theorem set_at (cs : Array Value) (i : Nat) (u v : Value) (h : cs[i]? = some u) : (cs.setIfInBounds i v)[i]? = some v := by
 have := (Array.getElem?_eq_some_iff.1 h).1
 simp [this]
theorem set_same (cs : Array Value) (i : Nat) (u : Value) (h : cs[i]? = some u) : cs.setIfInBounds i u = cs := by
 apply Array.ext_getElem?
 intro j
 rw [Array.getElem?_setIfInBounds]
 by_cases e : i = j
 ·subst e
  rw [if_pos rfl, if_pos (Array.getElem?_eq_some_iff.1 h).1, h]
 ·rw [if_neg e]
section
variable {w w' : World} {sb si pb db ob : Nat} {cs : Array Value} {lo : Nat} {v : Value} {L : List Int} {P : Pool} {o : Int}
theorem Resized.start (hS : SegAt w sb si cs lo v L) (hP : PoolAt w pb db ob P) (hI : SegIn P o L) (k : Nat) : Resized w (w.drewN k) sb si pb db ob cs lo v L P o L.length v L P := by
 refine ⟨hP.drewN k, ?_, hI, rfl, SegMv.refl _ _, rfl, fun j hj => by rw [if_pos hj], fun _ _ _ => rfl, (Kept.refl _ _).drewN k, fun g h => .inl h⟩
 rw [set_same _ _ _ hS.hc]
 exact hS.kept (S := fun _ => False) ((Kept.refl _ _).drewN k) (fun h => h) (fun _ _ h => h)
theorem Resized.pop {wr w5 : World} {M : List Int} {f : Int} {g cap n1 : Nat} {P1 : Pool} (h : Resized w wr sb si pb db ob cs lo v L P o (M.length + 1) (.slice (some ⟨g, 0, none⟩) n1 cap) (M ++ [f]) P1)
  (hP5 : PoolAt w5 pb db ob (P1.free f)) (hK5 : Kept (PS pb db ob) wr w5) (hN1 : ¬ PS pb db ob sb) (hN2 : ∀ g, lo <= g -> ¬ PS pb db ob g) (hc : cs[si]? = some v) :
  Resized w (w5.setCell ⟨sb, si, none⟩ (.slice (some ⟨g, 0, none⟩) M.length M.length)) sb si pb db ob cs lo v L P o M.length (.slice (some ⟨g, 0, none⟩) M.length M.length) M (P1.free f) := by
 obtain ⟨i1, i2, i3, i4⟩ := h.inn.pop
 have hgl := h.seg.hv.lt g rfl
 have hsl := h.seg.hl
 have hS5 := h.seg.kept hK5 hN1 (fun k hk => hN2 k (by have e : some g = some k := hk; injection e with e; omega))
 have hll := h.left
 refine ⟨hP5.kept (S := fun k => k = sb) ((Kept.refl _ _).setIn _ _ _ rfl) (fun e => hN1 (.inl e.symm)) (fun e => hN1 (.inr (.inl e.symm))) (fun e => hN1 (.inr (.inr e.symm))), ?_, i1, rfl, h.mv.trans i2, by omega, fun j hj => ?_, fun i hi hl => ?_, ?_, ?_⟩
 ·refine ⟨?_, set_at _ _ _ _ hc, ?_, hsl, by have := h.seg.h16; simp at this; omega⟩
  ·have := hS5.hb.set si (.slice (some ⟨g, 0, none⟩) M.length M.length)
   rwa [set_twice] at this
  ·have := hS5.hv.cut
   exact this.kept (S := fun k => k = sb) ((Kept.refl _ _).setIn _ _ _ rfl) (fun k hk => by have e : some g = some k := hk; injection e with e; omega)
 ·rw [i4 j hj]; exact h.data j (by omega)
 ·have := h.first i (by omega) hl
  rw [<- this]; simp [List.getD, List.getElem?_append_left hi]
 ·refine (h.kept.then (hK5.mono fun k _ hk => Or.inl hk) (fun k _ hk => hk)).setIn _ _ _ (.inr (.inl rfl))
 ·intro k hk
  exact h.own k hk
theorem Resized.push {wr w5 : World} {M : List Int} {v1 v2 : Value} {P1 : Pool} (h : Resized w wr sb si pb db ob cs lo v L P o M.length v1 M P1) (hl : 1 <= P1.left) (hLM : L.length <= M.length) (hM : M.length < 16)
  (hP5 : PoolAt w5 pb db ob (P1.alloc o)) (hB5 : Blk w5 sb ((cs.setIfInBounds si v1).setIfInBounds si v2) 85) (hF5 : FrIn w5 lo v2 (M ++ [P1.allocRet o])) (hO5 : ∀ g, v2.ownBlock = some g -> v1.ownBlock = some g \/ wr.heap.size <= g)
  (hK5 : Kept (RS pb db ob sb v1) wr w5) (hc : cs[si]? = some v) :
  Resized w w5 sb si pb db ob cs lo v L P o (M ++ [P1.allocRet o]).length v2 (M ++ [P1.allocRet o]) (P1.alloc o) := by
 obtain ⟨i1, i2, i3, i4, i5⟩ := h.inn.push hl
 have hll := h.left
 have hsz := h.kept.size
 have hlen : (M ++ [P1.allocRet o]).length = M.length + 1 := by simp
 refine ⟨hP5, ⟨by rwa [set_twice] at hB5, set_at _ _ _ _ hc, hF5, h.seg.hl, by omega⟩, i1, rfl, h.mv.trans i2, by omega, fun j hj => ?_, fun i hi hL => ?_, ?_, ?_⟩
 ·rw [hlen] at hj
  by_cases e : j < M.length * 64
  ·rw [i4 j e]; exact h.data j e
  ·rw [i5 j (by omega) (by omega), if_neg (by omega)]
 ·rw [<- h.first i (by omega) hL]; simp [List.getD, List.getElem?_append_left (show i < M.length by omega)]
 ·refine h.kept.then hK5 (fun k hk hs => ?_)
  rcases hs with hs | hs | hs
  ·exact .inl hs
  ·exact .inr (.inl hs)
  ·rcases h.own k hs with e | e
   ·exact .inr (.inr e)
   ·omega
 ·intro k hk
  rcases hO5 k hk with e | e
  ·exact h.own k e
  ·right; omega
end
theorem resize_yes (sb si pb db ob : Nat) (cs : Array Value) (lo : Nat) (v : Value) (L : List Int) (P : Pool) (o : Int) (n : Nat) (w : World) (hS : SegAt w sb si cs lo v L) (hP : PoolAt w pb db ob P) (hI : SegIn P o L) (hf : segR P L o n = true)
  (hlo : lo <= w.heap.size) (n1 : ¬ PS pb db ob sb) (n2 : ∀ g, lo <= g -> ¬ PS pb db ob g) :
  Calls Tryz.prog 79 #[.pointer (some ⟨sb, si, none⟩), .pointer (some ⟨pb, 0, none⟩), .int .u64 o, .int .i64 n] w fun e w' => e = .returned (.bool true) /\ ∃ v' L' P', Resized w w' sb si pb db ob cs lo v L P o n v' L' P' := by
 obtain ⟨c1, c2, c3, c4⟩ := (segR_iff P L o n).1 hf
 have hcs := hS.cell
 have h16 := hS.h16
 have hll := freeTo_le P.O P.n
 have hhi := hP.hi
 have hlf : P.left <= 4096 := by unfold Pool.left; omega
 have Kl := Lib.hid (fun k => (left_any pb db ob P (w.drewN k) (hP.drewN k)).mono fun e w' (h : e = _ /\ _ = w') => (⟨h.1, h.2.symm⟩ : e = _ /\ w' = w.drewN k))
 have hsum : IntKind.i64.wrap ((L.length : Int) + P.left) = (L.length : Int) + P.left := IntWalk.i64_in _ (by omega)
 have d1 : decide ((n : Int) < 0) = false := by simp
 have d2 : decide (16 < (n : Int)) = false := by simpa using c2
 have d3 : decide ((L.length : Int) + P.left < (n : Int)) = false := by simpa using c3
 have d4 : (o == 0) = false := by simpa using c4
 have HS := Lib.hid hS; have HP := Lib.hid hP; have HI := Lib.hid hI; have Hlo := Lib.hid hlo; have Hc3 := Lib.hid c3; have Hc4 := Lib.hid c4
 obtain ⟨a, cap, g, hv, g1, g2, g3, g4⟩ := hS.hv.open
 rw [hv] at hcs
 clear hS hP hI hlo hf hll c1 c3 c4 g4 g3 hv
 go_enter Tryz.func79, Tryz.ntmps79
 go_wp2_with fail
 go_quiet ((go_at_call 47; exact Calls.quiet_of_same (Kl.out _)))
 clear d1 d2 d3 d4 hsum Kl hcs g1 g2
 have hn16 : n <= 16 := by omega
 have HR0 := Lib.hid (Resized.start HS.out HP.out HI.out nq)
 go_wp2_with fail
 go_loopg [9] L.length (fun g _ wx => ∃ (v1 : Value) (M : List Int) (P1 : Pool), M.length = g /\ Resized w wx sb si pb db ob cs lo v L P o M.length v1 M P1 /\ (n <= M.length \/ M.length = L.length))
 case atStart => exact ⟨v, L, P, rfl, HR0.out, .inr rfl⟩
 case round =>
  obtain ⟨v1, M, P1, hMg, hR, hnM⟩ := hrel
  have HR := Lib.hid hR; have HnM := Lib.hid hnM; have HMg := Lib.hid hMg
  have hM16 := hR.seg.h16
  clear hR hnM hMg HR0
  by_cases hlt : n < M.length
  ·obtain ⟨M', f, rfl⟩ : ∃ M' f, M = M' ++ [f] := ⟨M.dropLast, M.getLast (by rintro rfl; simp at hlt), (List.dropLast_concat_getLast _).symm⟩
   have hlen : (M' ++ [f]).length = M'.length + 1 := by simp
   obtain ⟨a1, cap1, g1, hv1, e1, e2, e3, e4⟩ := HR.out.seg.hv.open
   obtain rfl := e3 (by omega)
   have hcl := e4 M'.length (by omega)
   have hfe : (M' ++ [f]).getD M'.length 0 = f := by simp [List.getD]
   rw [hfe] at hcl
   have hcs := HR.out.seg.cell
   rw [hv1, hlen] at hcs
   have HR' : Hid (Resized w wr sb si pb db ob cs lo v L P o (M'.length + 1) (.slice (some ⟨g1, 0, none⟩) (M' ++ [f]).length cap1) (M' ++ [f]) P1) := by unfold Hid; rw [<- hv1, <- hlen]; exact HR.out
   rw [hlen] at hlt e1 hM16
   have Hv1 := Lib.hid hv1
   have hszw := HR'.out.kept.size
   clear hfe e4 hv1 HR hlen
   have hsl : ∀ w, (Instr.slice 26 (.slice (some ⟨g1, 0, none⟩) (M'.length + 1) cap1) none (some (.int .i64 M'.length)) (some (.int .i64 M'.length))).run Tryz.prog w = .ok (.slice (some ⟨g1, 0, none⟩) M'.length M'.length) w := by
    intro w
    have h1 : (M'.length : Int) <= cap1 := by omega
    go_simp
   have hlti : (n : Int) < (M'.length : Int) + 1 := by omega
   go_wp2_with fail
   refine (free_any pb db ob P1 f _ HR'.out.pool).mono ?_
   rintro e w5 ⟨rfl, hP5, hK5⟩
   have hS5 := HR'.out.seg.kept hK5 n1 (fun k hk => n2 k (HR'.out.seg.hv.lt k hk).1)
   have hcs5 := hS5.cell
   have hfr5 := hS5.hb.free si
   rw [show (M' ++ [f]).length = M'.length + 1 by simp] at hcs5
   have HRn := Lib.hid (HR'.out.pop hP5 hK5 n1 n2 HS.out.hc)
   clear hP5 hK5 hS5 hcs hcl
   go_wp2_with fail
   go_roundg M'.length
   case measure => have := HMg.out; simp at this; omega
   case rel => exact ⟨_, M', _, rfl, HRn.out, .inl (by omega)⟩
  ·have hge : M.length <= n := by omega
   have HnM2 : Hid (M.length = n \/ L.length <= M.length) := by have := HnM.out; unfold Hid; omega
   obtain ⟨a1, cap1, g1, hv1, e1, e2, e3, e4⟩ := HR.out.seg.hv.open
   have hcs := HR.out.seg.cell
   rw [hv1] at hcs
   clear e4 e3 hv1 HnM HMg
   have hnlt : ¬ (n : Int) < M.length := by omega
   go_wp2_with fail
   clear hcs
   go_loopg [75] (n - M.length) (fun g _ wx => ∃ (v1 : Value) (M : List Int) (P1 : Pool), n - M.length = g /\ M.length <= n /\ Resized w wx sb si pb db ob cs lo v L P o M.length v1 M P1 /\ (M.length = n \/ L.length <= M.length))
   case atStart => exact ⟨v1, M, P1, rfl, hge, HR.out, HnM2.out⟩
   case round =>
    clear HR HnM2 hnlt hge hlt hM16 e1 e2
    obtain ⟨v1, M, P1, hMg, hge, hR, hnM⟩ := hrel
    have HR := Lib.hid hR; have HnM := Lib.hid hnM; have HMg := Lib.hid hMg
    have hM16 := hR.seg.h16
    obtain ⟨a1, cap1, g1, hv1, e1, e2, e3, e4⟩ := hR.seg.hv.open
    have hcs := hR.seg.cell
    rw [hv1] at hcs
    have hll := hR.left
    have Hv1 := Lib.hid hv1
    have Hlr : Hid (lo <= wr.heap.size) := Nat.le_trans Hlo.out hR.kept.size
    have Hc1 : Hid ((cs.setIfInBounds si v1)[si]? = some v1) := set_at _ _ _ _ HS.out.hc
    have Hsl : Hid (sb < lo) := HS.out.hl
    clear hR hnM hMg e4 e3 hv1
    by_cases hlt : M.length < n
    ·have hlti : (M.length : Int) < n := by omega
     have hpl : 1 <= P1.left := by have := HnM.out; have := Hc3.out; omega
     have HLM : Hid (L.length <= M.length) := by have := HnM.out; unfold Hid; omega
     have HPx := Lib.hid HR.out.pool.drew
     have HSx : Hid (SegAt wr.drew sb si (cs.setIfInBounds si v1) lo v1 M) := HR.out.seg.kept (S := fun _ => False) ((Kept.refl _ _).drew) (fun h => h) (fun _ _ h => h)
     go_wp2_with fail
     refine wp_region_rinv (by kernel_rfl) (by kernel_rfl) (by kernel_rfl)
      (fun i v => match i with | 0 => v = (.pointer (some ⟨sb, si, none⟩)) | 1 => v = (.pointer (some ⟨sb, si, none⟩)) | 2 => v = .pointer (some ⟨sb, si, none⟩) | 3 => v = .pointer (some ⟨sb, si, none⟩) | 4 => v = .slice a1 M.length cap1 | 5 => v = (.pointer (some ⟨pb, 0, none⟩)) | 6 => v = (.int .u64 o) | 7 => v = .int .i64 (P1.allocRet o) | 10 => v = .pointer (some ⟨sb, si, none⟩) | 11 => v = .pointer (some ⟨sb, si, none⟩) | _ => True)
      (fun l a wx => YR wr sb si pb db ob (cs.setIfInBounds si v1) lo v1 M P1 o l[7]? l[8]? l[9]? l[12]? (a.tmps.getD 83 undef) (a.tmps.getD 84 undef) wx) ?_ ?_ ?_
     ·exact ⟨HPx.out, fun _ => HSx.out, (Kept.refl _ wr).drew, fun h => by simp at h, fun h => by simp at h, fun h => by simp at h⟩
     ·intro hu i l a wx hi hl hli hd hcl hR hW
      have hi27 : i = 0 \/ i = 1 \/ i = 2 \/ i = 3 \/ i = 4 \/ i = 5 \/ i = 6 \/ i = 7 \/ i = 8 \/ i = 9 \/ i = 10 \/ i = 11 \/ i = 12 := by have : i < 13 := hi; omega
      rcases hi27 with rfl | rfl | rfl | rfl | rfl | rfl | rfl | rfl | rfl | rfl | rfl | rfl | rfl
      ·
       refine wpOp_val rfl (d := 75) rfl (wanted_plain rfl _) (ex_move (hR.was 0 rfl)) ⟨hR.put hu (by rw [hl]; decide) (d := 75) rfl (of_decide_eq_true rfl) rfl, ?_⟩
       simpa only [set_other, put_other, ne_eq, reduceCtorEq, not_false_eq_true, Nat.reduceEqDiff] using hW
      ·
       refine wpOp_val rfl (d := 76) rfl (wanted_plain rfl _) (ex_move (hR.was 0 rfl)) ⟨hR.put hu (by rw [hl]; decide) (d := 76) rfl (of_decide_eq_true rfl) rfl, ?_⟩
       simpa only [set_other, put_other, ne_eq, reduceCtorEq, not_false_eq_true, Nat.reduceEqDiff] using hW
      ·
       refine wpOp_val rfl (d := 77) rfl (wanted_plain rfl _) (ex_nilCheck (hR.slot 1 76 (hd 1 rfl) rfl) rfl) ⟨hR.put hu (by rw [hl]; decide) (d := 77) rfl (of_decide_eq_true rfl) rfl, ?_⟩
       simpa only [set_other, put_other, ne_eq, reduceCtorEq, not_false_eq_true, Nat.reduceEqDiff] using hW
      ·
       refine wpOp_val rfl (d := 78) rfl (wanted_plain rfl _) (ex_fieldAddr (hR.slot 2 77 (hd 2 rfl) rfl) (seg_0 _ _ _)) ⟨hR.put hu (by rw [hl]; decide) (d := 78) rfl (of_decide_eq_true rfl) rfl, ?_⟩
       simpa only [set_other, put_other, ne_eq, reduceCtorEq, not_false_eq_true, Nat.reduceEqDiff] using hW
      ·
       have h9 : l[9]? ≠ some true := fun h => by have := hcl.of 4 rfl h; rw [hli] at this; cases this
       have hcv := (hW.seg h9).cell
       rw [Hv1.out] at hcv
       refine wpOp_val rfl (d := 79) rfl (wanted_plain rfl _) (ex_load (hR.slot 3 78 (hd 3 rfl) rfl) (ld_ints hcv)) ⟨hR.put hu (by rw [hl]; decide) (d := 79) rfl (of_decide_eq_true rfl) rfl, ?_⟩
       simpa only [set_other, put_other, ne_eq, reduceCtorEq, not_false_eq_true, Nat.reduceEqDiff] using hW
      ·
       refine wpOp_val rfl (d := 80) rfl (wanted_plain rfl _) (ex_move (hR.was 1 rfl)) ⟨hR.put hu (by rw [hl]; decide) (d := 80) rfl (of_decide_eq_true rfl) rfl, ?_⟩
       simpa only [set_other, put_other, ne_eq, reduceCtorEq, not_false_eq_true, Nat.reduceEqDiff] using hW
      ·
       refine wpOp_val rfl (d := 81) rfl (wanted_plain rfl _) (ex_move (hR.was 2 rfl)) ⟨hR.put hu (by rw [hl]; decide) (d := 81) rfl (of_decide_eq_true rfl) rfl, ?_⟩
       simpa only [set_other, put_other, ne_eq, reduceCtorEq, not_false_eq_true, Nat.reduceEqDiff] using hW
      ·
       have hp := hW.pool
       rw [hli, if_neg (by simp)] at hp
       have h8 : l[8]? ≠ some true := fun h => by have := hcl.of 7 rfl h; rw [hli] at this; cases this
       have h9 : l[9]? ≠ some true := fun h => h8 (hcl.of 8 rfl h)
       have h12 : l[12]? ≠ some true := fun h => h9 (hcl.of 9 rfl h)
       refine wpOp_call rfl (d := 82) rfl (wanted_plain rfl _) (ex_call (vs := #[(.pointer (some ⟨pb, 0, none⟩)), (.int .u64 o)]) (by rw [List.map_toArray]; simp only [List.map_cons, List.map_nil, show a.eval (.tmp 80) = (.pointer (some ⟨pb, 0, none⟩)) from (hR.slot 5 80 (hd 5 rfl) rfl), show a.eval (.tmp 81) = (.int .u64 o) from (hR.slot 6 81 (hd 6 rfl) rfl)]) (enters_fn Tryz.func27 (by kernel_rfl) rfl)) (R := fun v w' => v = .int .i64 (P1.allocRet o) /\ PoolAt w' pb db ob (P1.alloc o) /\ Kept (PS pb db ob) wx w') ((alloc_any pb db ob P1 o wx hp).mono fun e w' ⟨h1, h2, h3⟩ => ⟨_, h1, rfl, h2, h3⟩) ?_
       rintro v w' ⟨rfl, h1, h2⟩
       refine ⟨hR.put hu (by rw [hl]; decide) (d := 82) rfl (of_decide_eq_true rfl) rfl, ?_⟩
       simp only [set_other, put_other, ne_eq, not_false_eq_true, Nat.reduceEqDiff, set_self (show 7 < l.size by rw [hl]; decide)]
       exact ⟨by rw [if_pos rfl]; exact h1, fun h => (hW.seg h).kept h2 n1 (fun k hk => n2 k ((hW.seg h).hv.lt k hk).1), hW.k0.trans (h2.mono fun k _ hk => Or.inl hk), fun h => absurd h h8, fun h => absurd h h9, fun h => absurd h h12⟩
      ·
       have h8 : l[8]? ≠ some true := by rw [hli]; simp
       have h9 : l[9]? ≠ some true := fun h => h8 (hcl.of 8 rfl h)
       have h12 : l[12]? ≠ some true := fun h => h9 (hcl.of 9 rfl h)
       refine wpOp_val rfl (d := 83) rfl (wanted_plain rfl _) (ex_buildSlice1 (hR.slot 7 82 (hd 7 rfl) rfl) (build_1 _ _)) ⟨hR.put hu (by rw [hl]; decide) (d := 83) rfl (of_decide_eq_true rfl) trivial, ?_⟩
       simp only [set_other, put_other, ne_eq, not_false_eq_true, Nat.reduceEqDiff, set_self (show 8 < l.size by rw [hl]; decide), put_self (show 83 < a.tmps.size by rw [hR.size]; exact of_decide_eq_true rfl)]
       have hb2 := (Below.refl wx.heap.size wx).alloc (Nat.le_refl _) (.cells #[.int .i64 (P1.allocRet o)] 3)
       exact ⟨hW.pool.below hb2, fun h => (hW.seg h).below hb2, hW.k0.alloc _, fun _ _ => ⟨_, rfl, (Blk.new wx #[.int .i64 (P1.allocRet o)] 3).cell 0⟩, fun h => absurd h h9, fun h => absurd h h12⟩
      ·
       have h9 : l[9]? ≠ some true := by rw [hli]; simp
       have h12 : l[12]? ≠ some true := fun h => h9 (hcl.of 9 rfl h)
       obtain ⟨nb, e83, hnb⟩ := hW.g8 (hd 8 rfl) h9
       have hsg := hW.seg h9
       obtain ⟨v2, w2, hrun, hF2, hK2, hO2⟩ := append_fr (nc := 1) (P1.allocRet o) 26 hsg.hv (Nat.le_trans Hlr.out hW.k0.size) hnb hsg.h16
       rw [Hv1.out] at hrun
       refine wpOp_val rfl (d := 84) rfl (wanted_plain rfl _) (ex_append1 (hR.slot 4 79 (hd 4 rfl) rfl) e83 hrun) ⟨hR.put hu (by rw [hl]; decide) (d := 84) rfl (of_decide_eq_true rfl) trivial, ?_⟩
       simp only [set_other, put_other, ne_eq, not_false_eq_true, Nat.reduceEqDiff, set_self (show 9 < l.size by rw [hl]; decide), put_self (show 84 < a.tmps.size by rw [hR.size]; exact of_decide_eq_true rfl)]
       have hgl := hsg.hv.lt
       have hsl := hsg.hl
       refine ⟨hW.pool.kept hK2 (fun e => n2 _ (hgl _ e).1 (.inl rfl)) (fun e => n2 _ (hgl _ e).1 (.inr (.inl rfl))) (fun e => n2 _ (hgl _ e).1 (.inr (.inr rfl))), fun h => absurd rfl h, hW.k0.trans (hK2.mono fun k _ hk => .inr (.inr hk)), fun _ h => absurd rfl h, fun _ _ => ⟨hK2.blk hsg.hb (fun e => by have := (hgl _ e).1; omega), hF2, fun g hg => ?_⟩, fun h => absurd h h12⟩
       rcases hO2 g hg with e | e
       ·exact .inl e
       ·exact .inr (Nat.le_trans hW.k0.size e)
      ·
       refine wpOp_val rfl (d := 85) rfl (wanted_plain rfl _) (ex_nilCheck (hR.slot 0 75 (hd 0 rfl) rfl) rfl) ⟨hR.put hu (by rw [hl]; decide) (d := 85) rfl (of_decide_eq_true rfl) rfl, ?_⟩
       simpa only [set_other, put_other, ne_eq, reduceCtorEq, not_false_eq_true, Nat.reduceEqDiff] using hW
      ·
       refine wpOp_val rfl (d := 86) rfl (wanted_plain rfl _) (ex_fieldAddr (hR.slot 10 85 (hd 10 rfl) rfl) (seg_0 _ _ _)) ⟨hR.put hu (by rw [hl]; decide) (d := 86) rfl (of_decide_eq_true rfl) rfl, ?_⟩
       simpa only [set_other, put_other, ne_eq, reduceCtorEq, not_false_eq_true, Nat.reduceEqDiff] using hW
      ·
       have h12 : l[12]? ≠ some true := by rw [hli]; simp
       obtain ⟨hb, hF, hO⟩ := hW.g9 (hd 9 rfl) h12
       have hcc : wx.cell? ⟨sb, si, none⟩ = some v1 := by rw [hb.cell]; exact Hc1.out
       obtain ⟨a2, cap2, g2, hv2, _⟩ := hF.open
       refine wpOp_unit rfl rfl (wanted_plain rfl _) (ex_store (hR.slot 11 86 (hd 11 rfl) rfl) hv2 (st_ints hcc (hb.free si))) ⟨hR.done rfl, ?_⟩
       rw [<- hv2]
       simp only [set_other, ne_eq, not_false_eq_true, Nat.reduceEqDiff, set_self (show 12 < l.size by rw [hl]; decide)]
       have hgl := hF.lt
       have hsl := Hsl.out
       have h9d := (hd 9 rfl)
       refine ⟨hW.pool.kept (S := fun k => k = sb) ((Kept.refl _ _).setIn _ _ _ rfl) (fun e => n1 (.inl e.symm)) (fun e => n1 (.inr (.inl e.symm))) (fun e => n1 (.inr (.inr e.symm))), fun h => absurd h9d h, hW.k0.setIn _ _ _ (.inr (.inl rfl)), fun _ h => absurd h9d h, fun _ h => absurd rfl h, fun _ => ⟨_, hb.set si _, hF.kept (S := fun k => k = sb) ((Kept.refl _ _).setIn _ _ _ rfl) (fun k hk => by have := (hgl k hk).1; omega), hO⟩⟩
     ·intro l a wx hl hR hW
      obtain ⟨v2, h1, h2, h3⟩ := hW.g12 (hl 12 (by decide))
      have hp := hW.pool
      rw [hl 7 (by decide), if_pos rfl] at hp
      have hk := hW.k0
      rw [hR.fold [75, 76, 77, 78, 79, 80, 81, 82, 83, 84, 85, 86] (by kernel_rfl)]
      simp only [List.foldl]
      clear hW hR hl
      generalize a.tmps.getD 75 undef = u75
      generalize a.tmps.getD 76 undef = u76
      generalize a.tmps.getD 77 undef = u77
      generalize a.tmps.getD 78 undef = u78
      generalize a.tmps.getD 79 undef = u79
      generalize a.tmps.getD 80 undef = u80
      generalize a.tmps.getD 81 undef = u81
      generalize a.tmps.getD 82 undef = u82
      generalize a.tmps.getD 83 undef = u83
      generalize a.tmps.getD 84 undef = u84
      generalize a.tmps.getD 85 undef = u85
      generalize a.tmps.getD 86 undef = u86
      go_simp
      clear a l
      have hk' : Kept (RS pb db ob sb v1) wr wx := hk
      have HRn := Lib.hid (HR.out.push hpl HLM.out (by omega) hp h1 h2 h3 hk' HS.out.hc)
      clear hp h1 h2 h3 hk hk'
      go_wp2_with fail
      go_roundg (n - (M.length + 1))
      case measure => have := HMg.out; omega
      case rel => exact ⟨v2, _, _, by simp, by simp; omega, HRn.out, by have := HLM.out; simp; omega⟩
    ·have hMn : M.length = n := by omega
     have HMn := Lib.hid hMn
     clear hMn
     have hnlt : ¬ (M.length : Int) < n := by omega
     go_wp2_with fail
     go_ret
     exact ⟨rfl, v1, M, P1, HMn.out ▸ HR.out⟩
end Go.Proofs.YtmlcgebahdcmaaaGreatDoor
namespace Go.Proofs.YtmlcgebahdcmaaaGreatDoor
open Go.RowKit
attribute [local irreducible] World.setCell World.alloc World.drew World.setRow Calls Code.wp row
theorem SegPut.left {P P' : Pool} {L : List Int} {q d : Nat} {B : Nat -> Int} (h : SegPut P P' L q d B) : P'.left = P.left := by unfold Pool.left; rw [h.n, h.O]
structure Seg (w : World) (sb si pb db ob : Nat) (cs : Array Value) (lo : Nat) (v : Value) (L : List Int) (P : Pool) (o : Int) : Prop where
 seg : SegAt w sb si cs lo v L
 pool : PoolAt w pb db ob P
 inn : SegIn P o L
 lo : lo <= w.heap.size
 lp : pb < sb /\ db < sb /\ ob < sb
section
variable {w w' : World} {sb si pb db ob : Nat} {cs : Array Value} {lo : Nat} {v : Value} {L : List Int} {P : Pool} {o : Int}
theorem Seg.n1 (h : Seg w sb si pb db ob cs lo v L P o) : ¬ PS pb db ob sb := by
 have := h.lp; rintro (e | e | e) <;> omega
theorem Seg.n2 (h : Seg w sb si pb db ob cs lo v L P o) : ∀ g, lo <= g -> ¬ PS pb db ob g := by
 have := h.lp; have := h.seg.hl; intro g hg; rintro (e | e | e) <;> omega
theorem Seg.below (h : Seg w sb si pb db ob cs lo v L P o) (hb : Below w.heap.size w w') : Seg w' sb si pb db ob cs lo v L P o :=
 ⟨h.seg.below hb, h.pool.below hb, h.inn, Nat.le_trans h.lo hb.size, h.lp⟩
theorem Seg.sized {n : Nat} {v' : Value} {L' : List Int} {P' : Pool} (h : Seg w sb si pb db ob cs lo v L P o) (hR : Resized w w' sb si pb db ob cs lo v L P o n v' L' P') : Seg w' sb si pb db ob (cs.setIfInBounds si v') lo v' L' P' o :=
 ⟨hR.seg, hR.pool, hR.inn, Nat.le_trans h.lo hR.kept.size, h.lp⟩
end
theorem frame_yes (sb si : Nat) (cs : Array Value) (lo : Nat) (v : Value) (L : List Int) (i : Nat) (w : World) (hS : SegAt w sb si cs lo v L) (hi : i < L.length) :
  Calls Tryz.prog 217 #[.pointer (some ⟨sb, si, none⟩), .int .i64 i] w fun e w' => e = .returned (.int .i64 (L.getD i 0)) /\ w = w' := by
 obtain ⟨a, cap, g, hv, h1, h2, h3, h4⟩ := hS.hv.open
 obtain rfl := h3 (by omega)
 have hc := hS.cell
 rw [hv] at hc
 have hcl := h4 i hi
 have HS := Lib.hid hS
 have hi' : ¬ (L.length : Int) <= i := by omega
 clear hS h4 h3 hv
 go_enter Tryz.func217, Tryz.ntmps217
 go_wp2_with fail
 refine (pages_any sb si cs lo v L _ HS.out).mono ?_
 rintro e w' ⟨rfl, rfl⟩
 go_wp2_with fail
 go_ret
 exact ⟨by simp [List.getD, hi], rfl⟩
theorem Seg.resize {w : World} {sb si pb db ob : Nat} {cs : Array Value} {lo : Nat} {v : Value} {L : List Int} {P : Pool} {o : Int} (h : Seg w sb si pb db ob cs lo v L P o) (n : Nat) (hf : segR P L o n = true) :
  Calls Tryz.prog 79 #[.pointer (some ⟨sb, si, none⟩), .pointer (some ⟨pb, 0, none⟩), .int .u64 o, .int .i64 n] w fun e w' => e = .returned (.bool true) /\ ∃ v' L' P', Resized w w' sb si pb db ob cs lo v L P o n v' L' P' /\ Seg w' sb si pb db ob (cs.setIfInBounds si v') lo v' L' P' o :=
 (resize_yes sb si pb db ob cs lo v L P o n w h.seg h.pool h.inn hf h.lo h.n1 h.n2).mono fun _ _ ⟨h1, v', L', P', h2⟩ => ⟨h1, v', L', P', h2, h.sized h2⟩
end Go.Proofs.YtmlcgebahdcmaaaGreatDoor
namespace Go.Proofs.YtmlcgebahdcmaaaGreatDoor
open Go.RowKit
theorem and1_u64 (x : Int) (h0 : 0 <= x) (h1 : x <= 18446744073709551615) : bits .and .u64 x 1 = x % 2 := by
 obtain ⟨n, rfl⟩ := Int.eq_ofNat_of_zero_le h0
 show IntKind.u64.wrap ((BitVec.ofInt 64 (n : Int) &&& BitVec.ofInt 64 ((1 : Nat) : Int)).toNat : Int) = _
 rw [BitVec.toNat_and, BitVec.ofInt_natCast, BitVec.ofInt_natCast, BitVec.toNat_ofNat, BitVec.toNat_ofNat, Nat.mod_eq_of_lt (by omega), Nat.mod_eq_of_lt (by omega), Nat.and_one_is_mod, IntKind.wrap_u64]
 omega
theorem and2_u64 (f : Int) (b : Bool) (h0 : 0 <= f) (h1 : f <= 4294967295) : bits .and .u64 (f * 256 + 1 + (if b then 2 else 0)) 2 = if b then 2 else 0 := by
 obtain ⟨n, rfl⟩ := Int.eq_ofNat_of_zero_le h0
 have key : ∀ c : Nat, c < 256 -> (2 ^ 8 * n + c) &&& 2 = c &&& 2 := by
  intro c hc
  apply Nat.eq_of_testBit_eq
  intro i
  rw [Nat.testBit_and, Nat.testBit_and]
  by_cases hi : i < 8
  ·rw [Nat.testBit_two_pow_mul_add _ (by omega), if_pos hi]
  ·have : Nat.testBit 2 i = false := Nat.testBit_lt_two_pow (Nat.lt_of_lt_of_le (by decide : 2 < 2 ^ 8) (Nat.pow_le_pow_right (by omega) (by omega)))
   rw [this]; simp
 cases b
 ·have e : ((n : Int) * 256 + 1 + (if false = true then 2 else 0)) = ((2 ^ 8 * n + 1 : Nat) : Int) := by simp; omega
  rw [e]
  show IntKind.u64.wrap ((BitVec.ofInt 64 ((2 ^ 8 * n + 1 : Nat) : Int) &&& BitVec.ofInt 64 ((2 : Nat) : Int)).toNat : Int) = _
  rw [BitVec.toNat_and, BitVec.ofInt_natCast, BitVec.ofInt_natCast, BitVec.toNat_ofNat, BitVec.toNat_ofNat, Nat.mod_eq_of_lt (by omega), Nat.mod_eq_of_lt (by omega), key 1 (by omega)]
  decide
 ·have e : ((n : Int) * 256 + 1 + (if true = true then 2 else 0)) = ((2 ^ 8 * n + 3 : Nat) : Int) := by simp; omega
  rw [e]
  show IntKind.u64.wrap ((BitVec.ofInt 64 ((2 ^ 8 * n + 3 : Nat) : Int) &&& BitVec.ofInt 64 ((2 : Nat) : Int)).toNat : Int) = _
  rw [BitVec.toNat_and, BitVec.ofInt_natCast, BitVec.ofInt_natCast, BitVec.toNat_ofNat, BitVec.toNat_ofNat, Nat.mod_eq_of_lt (by omega), Nat.mod_eq_of_lt (by omega), key 3 (by omega)]
  decide
theorem or2_u64 (f : Int) (h0 : 0 <= f) (h1 : f <= 4294967295) : bits .or .u64 (f * 256 + 1) 2 = f * 256 + 3 := by
 obtain ⟨n, rfl⟩ := Int.eq_ofNat_of_zero_le h0
 have e : ((n : Int) * 256 + 1) = ((2 ^ 8 * n + 1 : Nat) : Int) := by omega
 rw [e]
 show IntKind.u64.wrap ((BitVec.ofInt 64 ((2 ^ 8 * n + 1 : Nat) : Int) ||| BitVec.ofInt 64 ((2 : Nat) : Int)).toNat : Int) = _
 rw [BitVec.toNat_or, BitVec.ofInt_natCast, BitVec.ofInt_natCast, BitVec.toNat_ofNat, BitVec.toNat_ofNat, Nat.mod_eq_of_lt (by omega), Nat.mod_eq_of_lt (by omega),
  Nat.two_pow_add_eq_or_of_lt (by omega : 1 < 2 ^ 8), Nat.or_assoc, show (1 ||| 2 : Nat) = 3 from rfl, <- Nat.two_pow_add_eq_or_of_lt (by omega : 3 < 2 ^ 8), IntKind.wrap_u64]
 omega
def ent (P : Pool) (t : Int) (i : Nat) : Int := beN (fun j => P.D ((t.toNat - 1) * 64 + i * 8 + j)) 8
def Pool.setE (P : Pool) (t : Int) (i : Nat) (x : Int) : Pool := P.write t ((i : Int) * 8) 8 (byN 8 x)
theorem ent_bd (P : Pool) (hB : ∀ i, 0 <= P.D i /\ P.D i <= 255) (t : Int) (i : Nat) : 0 <= ent P t i /\ ent P t i <= 18446744073709551615 := beN_bd8 _ (fun _ => hB _) 8 (Nat.le_refl _)
theorem setE_n (P : Pool) (t : Int) (i : Nat) (x : Int) : (P.setE t i x).n = P.n := by unfold Pool.setE Pool.write; split <;> rfl
theorem setE_O (P : Pool) (t : Int) (i : Nat) (x : Int) : (P.setE t i x).O = P.O := by unfold Pool.setE Pool.write; split <;> rfl
theorem setE_owner (P : Pool) (t : Int) (i : Nat) (x f : Int) : (P.setE t i x).owner f = P.owner f := by unfold Pool.owner Pool.there; rw [setE_n, setE_O]
theorem fits8 (P : Pool) (t : Int) (i : Nat) (hi : i < 8) (ho : P.owner t ≠ 0) : P.fits t ((i : Int) * 8) 8 = true := by
 rw [P.fits_iff]; exact ⟨ho, by omega, by omega, by omega, by omega⟩
theorem ent_setE (P : Pool) (t t' : Int) (i i' : Nat) (x : Int) (hi : i < 8) (hi' : i' < 8) (ho : P.owner t ≠ 0) (ht : 1 <= t) (ht' : 1 <= t') (h0 : 0 <= x) (h1 : x <= 18446744073709551615) :
  ent (P.setE t i x) t' i' = if t' = t /\ i' = i then x else ent P t' i' := by
 have hw : P.setE t i x = ⟨P.n, P.O, fun j => if (t.toNat - 1) * 64 + ((i : Int) * 8).toNat <= j /\ j < (t.toNat - 1) * 64 + ((i : Int) * 8).toNat + 8 then byN 8 x (j - ((t.toNat - 1) * 64 + ((i : Int) * 8).toNat)) else P.D j⟩ := by
  unfold Pool.setE Pool.write; rw [if_pos]; exact fits8 P t i hi ho
 have e8 : ((i : Int) * 8).toNat = i * 8 := by omega
 rw [hw, e8]
 unfold ent
 by_cases e : t' = t /\ i' = i
 ·obtain ⟨rfl, rfl⟩ := e
  rw [if_pos ⟨rfl, rfl⟩]
  rw [beN_congr _ (byN 8 x) 8 (fun j hj => by
   show (if _ then _ else _) = _
   rw [if_pos (by omega)]; congr 1; omega)]
  rw [beN_byN 8 x h0 8 (Nat.le_refl _)]
  have h2 : (256 : Int) ^ 8 = 18446744073709551616 := by decide
  rw [Nat.sub_self, h2]
  simp only [Int.pow_zero, Int.ediv_one]
  omega
 ·rw [if_neg e]
  refine beN_congr _ _ 8 fun j hj => ?_
  show (if _ then _ else _) = _
  rw [if_neg]
  intro h
  apply e
  constructor <;> omega
theorem setE_other (P : Pool) (t : Int) (i : Nat) (x : Int) (hi : i < 8) (j : Nat) (hj : j / 64 ≠ t.toNat - 1) : (P.setE t i x).D j = P.D j := by
 unfold Pool.setE Pool.write
 split
 ·show (if _ then _ else _) = _
  rw [if_neg]
  have : ((i : Int) * 8).toNat = i * 8 := by omega
  omega
 ·rfl
theorem ent_congr (P P' : Pool) (t : Int) (i : Nat) (hi : i < 8) (h : ∀ j, j / 64 = t.toNat - 1 -> P'.D j = P.D j) : ent P' t i = ent P t i :=
 beN_congr _ _ 8 fun j hj => h _ (by omega)
attribute [local irreducible] World.setCell World.alloc World.drew World.setRow Calls Code.wp row
theorem index_any (l p : Nat) (w : World) (hl : l <= 3) (hp : p < 4096) :
  Calls Tryz.prog 282 #[.int .i64 l, .int .i64 p] w fun e w' => e = .returned (.int .i64 ((p / 8 ^ (3 - l) % 8 : Nat) : Int)) /\ w = w' := by
 have hpi : (p : Int) < 4096 := by omega
 have h7 := and7
 obtain rfl | rfl | rfl | rfl : l = 0 \/ l = 1 \/ l = 2 \/ l = 3 := by omega
 all_goals
  go_enter Tryz.func282, Tryz.ntmps282
  go_wp2_with fail
  go_ret
  refine ⟨?_, rfl⟩
  show Ending.returned (Value.int .i64 _) = _
  congr 2
  try omega
end Go.Proofs.YtmlcgebahdcmaaaGreatDoor
