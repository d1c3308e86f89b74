/- Each: all pages of a table that lead somewhere, rising: plainly, and as an iterator whose loop may stop. -/
import Derived.Test.YtndnjimiabpkpaaPgE
import Derived.RangeFuncNested
import Derived.RangeFuncBound
import Derived.RangeFuncCalls
import Derived.RangeFuncLeaves
import Derived.Shelf.Abstract
import Derived.Shelf.RegionOpen
import Derived.OwnWalkIn
import Derived.TacticsInMore
import Derived.LoopNIn
import Derived.LoopIn
namespace Go.Proofs.Ytndnjimiabpkpaa
open Go.RowKit Go.Shelf
attribute [local irreducible] World.setCell World.alloc World.drew World.setRow Calls Code.wp row
attribute [local go_sem] Oper.semAt_some

/-- Of the n pages from a on those that lead somewhere. -/
def pgs (F : Nat → Int) (a : Nat) : Nat → List (Nat × Int)
  | 0 => []
  | n + 1 => pgs F a n ++ (if F (a + n) = 0 then [] else [(a + n, F (a + n))])
theorem pgs_add (F : Nat → Int) (a n m : Nat) : pgs F a (n + m) = pgs F a n ++ pgs F (a + n) m := by
  induction m with
  | zero => simp [pgs]
  | succ m ih =>
    rw [← Nat.add_assoc]
    show pgs F a (n + m) ++ (if F (a + (n + m)) = 0 then [] else [(a + (n + m), F (a + (n + m)))]) = pgs F a n ++ (pgs F (a + n) m ++ (if F (a + n + m) = 0 then [] else [(a + n + m, F (a + n + m))]))
    rw [ih, List.append_assoc, Nat.add_assoc]
theorem pgs_none (F : Nat → Int) (a n : Nat) (h : ∀ j, j < n → F (a + j) = 0) : pgs F a n = [] := by
  induction n with
  | zero => rfl
  | succ n ih => unfold pgs; rw [ih (fun j hj => h j (by omega)), if_pos (h n (by omega))]; rfl
theorem pgs_one (F : Nat → Int) (a : Nat) (h : F a ≠ 0) : pgs F a 1 = [(a, F a)] := by simp [pgs, h]
/-- Table number pg of a level. -/
def nodeOf (l pg : Nat) : Nat := if l = 0 then 0 else if l = 1 then 1 + pg else if l = 2 then 9 + pg else 73 + pg

theorem or8_i64 (a b : Int) (h0 : 0 ≤ a) (h1 : 0 ≤ b) (h2 : b < 8) (h3 : a ≤ 100000) : bits .or .i64 (a * 8) b = a * 8 + b := by
  obtain ⟨a, rfl⟩ := Int.eq_ofNat_of_zero_le h0
  obtain ⟨b, rfl⟩ := Int.eq_ofNat_of_zero_le h1
  have e1 : ((a : Int) * 8) = ((2 ^ 3 * a : Nat) : Int) := by omega
  rw [e1]
  have h2' : b < 2 ^ 3 := by omega
  show IntKind.i64.wrap ((BitVec.ofInt 64 ((2 ^ 3 * a : Nat) : Int) ||| BitVec.ofInt 64 (b : Int)).toNat : Int) = _
  rw [BitVec.toNat_or, BitVec.ofInt_natCast, BitVec.ofInt_natCast, BitVec.toNat_ofNat, BitVec.toNat_ofNat, Nat.mod_eq_of_lt (by omega), Nat.mod_eq_of_lt (by omega), ← Nat.two_pow_add_eq_or_of_lt h2']
  rw [IntWalk.i64_in _ (by omega)]
  omega
theorem below_grows {w w' : World} (h : Below w.heap.size w w') : w.grownBy w' none := ⟨h.os, h.tape, h.output, h.size, fun k hk _ => h.block k hk⟩
theorem room_of_wide (k : Nat) : Fence.wide.room k := fun d h => by cases h
theorem RoundIn.wideDepth {m m' : Nat} {P : Program} {l : Nat} {f : FuncId} {tmps : Array Value} {assign body : Code} {w : World} {R : Ending → World → Prop}
    (h : RoundIn Fence.wide m P l f tmps assign body w R) : RoundIn Fence.wide m' P l f tmps assign body w R := ⟨h.1, fun c cs _ => h.2 c cs (room_of_wide _)⟩
theorem YieldAt.wideDepth {m : Nat} (m' : Nat) {P : Program} {l : Nat} {args : Array Value} {W : World} {R : Ending → World → Prop} (h : YieldAt Fence.wide m P l args W R) : YieldAt Fence.wide m' P l args W R := by
  obtain ⟨fn, tmps, assign, body, hy, hR⟩ := h
  exact ⟨fn, tmps, assign, body, hy, RoundIn.wideDepth hR⟩

theorem RowKit.Below.pool {n₀ : Nat} {w w' : World} {pb db ob : Nat} {P : Pool} (h : Below n₀ w w') (hl : pb < n₀ ∧ db < n₀ ∧ ob < n₀) (hP : PoolAt w pb db ob P) : PoolAt w' pb db ob P :=
  ⟨hP.hp.below h hl.1, hP.hd.below h hl.2.1, hP.ho.below h hl.2.2, hP.n1, hP.n2, hP.n3, hP.lo, hP.hi, hP.bd⟩
theorem eight (l : Nat) (h : l ≤ 3) : 8 ^ (4 - l) = 8 * 8 ^ (3 - l) := by
  rw [show 4 - l = (3 - l) + 1 by omega, Nat.pow_succ]; omega

set_option maxRecDepth 100000 in
set_option maxHeartbeats 4000000 in
theorem each_in (pb db ob : Nat) (P : Pool) (r o : Int) (N F : Nat → Int) (Y : Nat → Bool) (hT : Tab P r o N F Y) (lp n₀ NN : Nat) (J Jx : List (Nat × Int) → World → Prop) (hlow : pb < n₀ ∧ db < n₀ ∧ ob < n₀)
    (hJg : ∀ s W W', J s W → W.grownBy W' none → J s W')
    (hY : ∀ m pre (x : Nat × Int) W, J pre W → pre.length < NN → YieldAt Fence.wide m Try.prog lp #[.int .i64 x.1, .int .i64 x.2] W fun e W' =>
      (e = .returned (.bool true) ∧ J (pre ++ [x]) W' ∧ Below n₀ W W') ∨ (e = .returned (.bool false) ∧ Jx (pre ++ [x]) W')) :
    ∀ (d l pg : Nat), l + d = 3 → pg < 8 ^ l → N (nodeOf l pg) ≠ 0 → ∀ (n : Nat) (pre : List (Nat × Int)) (W : World), PoolAt W pb db ob P → n₀ ≤ W.heap.size → J pre W → pre.length + (pgs F (pg * 8 ^ (4 - l)) (8 ^ (4 - l))).length ≤ NN →
      CallsIn Fence.wide n Try.prog 61 #[.pointer (some ⟨pb, 0, none⟩), .int .i64 (N (nodeOf l pg)), .int .i64 l, .int .i64 pg, .func (.yield lp) #[] #[]] W fun e W' =>
        (e = .returned (.bool true) ∧ J (pre ++ pgs F (pg * 8 ^ (4 - l)) (8 ^ (4 - l))) W' ∧ Below n₀ W W') ∨ (e = .returned (.bool false) ∧ ∃ q, q <+: pgs F (pg * 8 ^ (4 - l)) (8 ^ (4 - l)) ∧ Jx (pre ++ q) W') := by
  intro d
  induction d with
  | zero =>
    intro l pg hl hpg h0 n pre W hP hn hJ hN
    obtain rfl : l = 3 := by omega
    have hdd : ∀ k : Nat, (Fence.wide.depth.isSome = true → 1 ≤ k) := fun k h => by cases h
    obtain ⟨t, ht⟩ : ∃ t, N (nodeOf 3 pg) = t := ⟨_, rfl⟩
    have Ht := Lib.hid ht; have H0 := Lib.hid h0
    have HP := Lib.hid hP; have HJ := Lib.hid hJ; have HY := Lib.hid hY; have HJg := Lib.hid hJg; have HN := Lib.hid hN; have HT := Lib.hid hT
    rw [ht]
    clear hP hJ hY hJg ht h0 hN hT
    refine callsIn_of_wp Try.func61 rfl trivial ?_ rfl
    simp only [Try.ntmps61, List.size_toArray, List.length_cons, List.length_nil, Nat.reduceAdd, Nat.reduceSub, Array.replicate_succ, Array.replicate_zero, List.push_toArray, List.append_toArray, List.nil_append, List.cons_append]
    gi_wp2
    gi_loopw [15] (fun i wr => ∃ k : Nat, k ≤ 8 ∧ i = .int .i64 k ∧ J (pre ++ pgs F (pg * 8) k) wr ∧ Below n₀ W wr) (fun i _ => 8 - (intOf i).toNat)
    case atStart => exact ⟨0, by omega, rfl, by simpa [pgs] using HJ.out, Below.refl _ _⟩
    case round =>
      obtain ⟨k, hk, rfl, hJ, hB⟩ := hrel
      have hbz := hB.size
      have HPr := Lib.hid (RowKit.Below.pool hB hlow HP.out)
      have HJr := Lib.hid hJ; have HBr := Lib.hid hB
      clear hJ hB
      by_cases hlt : k < 8
      · have hto : P.owner t ≠ 0 := by rw [← Ht.out, HT.out.own _ (by unfold nodeOf; simp; omega) H0.out]; exact HT.out.o0
        have hent := HT.out.ent _ (show nodeOf 3 pg < 585 by unfold nodeOf; simp; omega) H0.out k hlt
        rw [if_neg (by unfold nodeOf; simp; omega), Ht.out] at hent
        have hnp : 8 * nodeOf 3 pg + 1 + k - 585 = pg * 8 + k := by unfold nodeOf; simp; omega
        rw [hnp] at hent
        have heb := ent_bd P HPr.out.bd t k
        have Hto := Lib.hid hto; have Hent := Lib.hid hent
        have Hen := Lib.hid (fun w h => callsIn_wide (n := n - 1).2 (entry_any pb db ob P t k w h Hto.out hlt))
        clear hto hent hnp
        by_cases hF : F (pg * 8 + k) = 0
        · have he : ent P t k = 0 := by rw [Hent.out]; unfold leafE; rw [if_pos hF]
          rw [he] at Hen
          have ha : bits .and .u64 0 1 = 0 := by decide
          have hs : pgs F (pg * 8) (k + 1) = pgs F (pg * 8) k := by
            show pgs F (pg * 8) k ++ (if F (pg * 8 + k) = 0 then [] else [(pg * 8 + k, F (pg * 8 + k))]) = _
            rw [if_pos hF, List.append_nil]
          have Hs := Lib.hid hs
          clear he hF heb hs
          gi_wp2_with (refine ⟨trivial, hdd _, ?_⟩; gi_at_call 55; refine (Hen.out _ HPr.out).mono ?_; rintro e w2 ⟨rfl, hb2⟩)
          go_roundw
          case rel => exact ⟨k + 1, by omega, by go_num, by rw [Hs.out]; exact HJg.out _ _ _ HJr.out (below_grows hb2), HBr.out.trans (hb2.mono (by omega))⟩
          case measure => simp [intOf]; omega
        · have he : ent P t k % 2 = 1 ∧ ent P t k / 256 = F (pg * 8 + k) := by
            have := (HT.out.lf (pg * 8 + k) (by omega)).1
            rw [Hent.out]; unfold leafE; rw [if_neg hF]; split <;> omega
          have hfl := HT.out.lf (pg * 8 + k) (by omega)
          obtain ⟨x, hx⟩ : ∃ x, ent P t k = x := ⟨_, rfl⟩
          obtain ⟨f, hf⟩ : ∃ f, F (pg * 8 + k) = f := ⟨_, rfl⟩
          rw [hx] at heb Hen he
          rw [hf] at he hfl
          have ha : bits .and .u64 x 1 = 1 := by rw [and1_u64 _ heb.1 heb.2]; exact he.1
          have hor : bits .or .i64 ((pg : Int) * 8) k = ((pg * 8 + k : Nat) : Int) := by rw [or8_i64 _ _ (by omega) (by omega) (by omega) (by omega)]; omega
          have hsh : x / 256 = f := he.2
          have hs : pgs F (pg * 8) (k + 1) = pgs F (pg * 8) k ++ [(pg * 8 + k, f)] := by
            show pgs F (pg * 8) k ++ (if F (pg * 8 + k) = 0 then [] else [(pg * 8 + k, F (pg * 8 + k))]) = _
            rw [if_neg hF, hf]
          have hle : pgs F (pg * 8) 8 = pgs F (pg * 8) k ++ pgs F (pg * 8 + k) (8 - k) := by rw [← pgs_add]; congr 1; omega
          have hle1 : pgs F (pg * 8) 8 = pgs F (pg * 8) (k + 1) ++ pgs F (pg * 8 + (k + 1)) (8 - (k + 1)) := by rw [← pgs_add]; congr 1; omega
          have hlen : (pre ++ pgs F (pg * 8) k).length < NN := by
            have := HN.out
            rw [show (8 : Nat) ^ (4 - 3) = 8 from rfl, hle1, hs] at this
            simp at this ⊢; omega
          have hpre : pgs F (pg * 8) (k + 1) <+: pgs F (pg * 8) 8 := ⟨_, hle1.symm⟩
          have Hs := Lib.hid hs; have Hpre := Lib.hid hpre
          obtain ⟨p, hp⟩ : ∃ p, pg * 8 + k = p := ⟨_, rfl⟩
          rw [hp] at hor Hs
          have Hy : Hid (∀ w2, J (pre ++ pgs F (pg * 8) k) w2 → YieldAt Fence.wide (n - 1) Try.prog lp #[.int .i64 p, .int .i64 f] w2 fun e W' =>
              (e = .returned (.bool true) ∧ J (pre ++ pgs F (pg * 8) (k + 1)) W' ∧ Below n₀ w2 W') ∨ (e = .returned (.bool false) ∧ Jx (pre ++ pgs F (pg * 8) (k + 1)) W')) := fun w2 h => by
            have := HY.out (n - 1) _ (p, f) w2 h hlen
            rw [List.append_assoc, ← Hs.out] at this; exact this
          have hpg' : (pg : Int) * 8 ≤ 4096 := by omega
          clear hx hf hF he hle hle1 hlen hs hpre hp
          gi_wp2_with (first
            | (refine ⟨trivial, hdd _, ?_⟩; gi_at_call 55; refine (Hen.out _ HPr.out).mono ?_; rintro e w2 ⟨rfl, hb2⟩; obtain ⟨fn, tmps, assign, body, hy, hR⟩ := Hy.out w2 (HJg.out _ _ _ HJr.out (below_grows hb2)))
            | ((try refine ⟨hdd _, ?_⟩); refine hR.mono ?_; clear hR; rintro e W3 (⟨rfl, hJ3, hB3⟩ | ⟨rfl, hx3⟩)))
          · go_roundw
            case rel => exact ⟨k + 1, by omega, by go_num, hJ3, HBr.out.trans ((hb2.mono (by omega)).trans hB3)⟩
            case measure => simp [intOf]; omega
          · go_ret
            exact .inr ⟨rfl, _, Hpre.out, hx3⟩
      · obtain rfl : k = 8 := by omega
        have hlt' : ¬ ((8 : Nat) : Int) < 8 := by omega
        gi_wp2
        go_ret
        exact .inl ⟨rfl, HJr.out, HBr.out⟩
  | succ d ih =>
    intro l pg hl hpg h0 n pre W hP hn hJ hN
    have hl2 : l ≤ 2 := by omega
    have hnode : ∀ k, k < 8 → 8 * nodeOf l pg + 1 + k = nodeOf (l + 1) (pg * 8 + k) := fun k hk => by
      obtain rfl | rfl | rfl : l = 0 ∨ l = 1 ∨ l = 2 := by omega
      · have : pg = 0 := by simpa using hpg
        subst this; simp [nodeOf]; try omega
      · simp [nodeOf]; try omega
      · simp [nodeOf]; try omega
    have hm73 : nodeOf l pg < 73 := by
      obtain rfl | rfl | rfl : l = 0 ∨ l = 1 ∨ l = 2 := by omega
      · simp [nodeOf]
      · simp [nodeOf]; omega
      · simp [nodeOf]; omega
    have hpg64 : pg < 64 := by
      obtain rfl | rfl | rfl : l = 0 ∨ l = 1 ∨ l = 2 := (by omega)
      all_goals omega
    have hpg' : ∀ k, k < 8 → pg * 8 + k < 8 ^ (l + 1) := fun k hk => by
      obtain rfl | rfl | rfl : l = 0 ∨ l = 1 ∨ l = 2 := (by omega)
      all_goals omega
    have he4 := eight l (by omega)
    obtain ⟨s, hs8⟩ : ∃ s, 8 ^ (3 - l) = s := ⟨_, rfl⟩
    have hs4 : 8 ^ (4 - (l + 1)) = s := by rw [← hs8]; congr 1; omega
    have hsb : s ≤ 512 := by
      obtain rfl | rfl | rfl : l = 0 ∨ l = 1 ∨ l = 2 := (by omega)
      all_goals omega
    rw [hs8] at he4
    rw [he4] at hN ⊢
    have hps : pg * (8 * s) + 8 * s ≤ 4096 := by
      obtain rfl | rfl | rfl : l = 0 ∨ l = 1 ∨ l = 2 := by omega
      · have : pg = 0 := by simpa using hpg
        subst this; subst hs8; simp
      · subst hs8; simp at hpg ⊢; omega
      · subst hs8; simp at hpg ⊢; omega
    obtain ⟨a0, ha0⟩ : ∃ a0, pg * (8 * s) = a0 := ⟨_, rfl⟩
    have hca : ∀ k, (pg * 8 + k) * s = a0 + k * s := fun k => by rw [← ha0, Nat.add_mul, Nat.mul_assoc]
    rw [ha0] at hN ⊢ hps
    have hdd : ∀ k : Nat, (Fence.wide.depth.isSome = true → 1 ≤ k) := fun k h => by cases h
    obtain ⟨t, ht⟩ : ∃ t, N (nodeOf l pg) = t := ⟨_, rfl⟩
    have Ht := Lib.hid ht; have H0 := Lib.hid h0; have Ih := Lib.hid ih; have Hnode := Lib.hid hnode; have Hpg := Lib.hid hpg'
    have HP := Lib.hid hP; have HJ := Lib.hid hJ; have HY := Lib.hid hY; have HJg := Lib.hid hJg; have HN := Lib.hid hN; have HT := Lib.hid hT; have Hca := Lib.hid hca; have Hs4 := Lib.hid hs4
    have hl3 : ((l : Int) == 3) = false := by simp; omega
    have hl1 : (l : Int) + 1 ≤ 3 := by omega
    rw [ht]
    clear hP hJ hY hJg ht h0 hN hT ih hnode hpg' hca hs4 he4 hs8 ha0 hpg
    refine callsIn_of_wp Try.func61 rfl trivial ?_ rfl
    simp only [Try.ntmps61, List.size_toArray, List.length_cons, List.length_nil, Nat.reduceAdd, Nat.reduceSub, Array.replicate_succ, Array.replicate_zero, List.push_toArray, List.append_toArray, List.nil_append, List.cons_append]
    gi_wp2
    gi_loopw [15] (fun i wr => ∃ k : Nat, k ≤ 8 ∧ i = .int .i64 k ∧ J (pre ++ pgs F a0 (k * s)) wr ∧ Below n₀ W wr) (fun i _ => 8 - (intOf i).toNat)
    case atStart => exact ⟨0, by omega, rfl, by simpa [pgs] using HJ.out, Below.refl _ _⟩
    case round =>
      obtain ⟨k, hk, rfl, hJ, hB⟩ := hrel
      have hbz := hB.size
      have HPr := Lib.hid (RowKit.Below.pool hB hlow HP.out)
      have HJr := Lib.hid hJ; have HBr := Lib.hid hB
      clear hJ hB
      by_cases hlt : k < 8
      · have hto : P.owner t ≠ 0 := by rw [← Ht.out, HT.out.own _ (by omega) H0.out]; exact HT.out.o0
        have hent := HT.out.ent _ (show nodeOf l pg < 585 by omega) H0.out k hlt
        rw [if_pos (by omega), Ht.out, Hnode.out k hlt] at hent
        have heb := ent_bd P HPr.out.bd t k
        have Hto := Lib.hid hto; have Hent := Lib.hid hent
        have Hen := Lib.hid (fun w h => callsIn_wide (n := n - 1).2 (entry_any pb db ob P t k w h Hto.out hlt))
        have hks : (k + 1) * s = k * s + s := Nat.succ_mul k s
        have hks8 : k * s + s ≤ 8 * s := by rw [← hks]; exact Nat.mul_le_mul_right s (by omega)
        have hs : pgs F a0 ((k + 1) * s) = pgs F a0 (k * s) ++ pgs F (a0 + k * s) s := by rw [hks, pgs_add]
        have Hs := Lib.hid hs
        clear hto hent hs hks
        by_cases hc : N (nodeOf (l + 1) (pg * 8 + k)) = 0
        · have he : ent P t k = 0 := by rw [Hent.out, if_pos hc]
          rw [he] at Hen
          have ha : bits .and .u64 0 1 = 0 := by decide
          have hz : pgs F (a0 + k * s) s = [] := pgs_none _ _ _ fun j hj => by
            -- a page that leads somewhere has all its tables
            have hcj := Hca.out k
            have hp : a0 + k * s + j < 4096 := by omega
            by_cases hF : F (a0 + k * s + j) = 0
            · exact hF
            · exfalso
              have h1 := HT.out.way (a0 + k * s + j) hp hF (l + 1) (by omega)
              apply h1
              have e : nd (a0 + k * s + j) (l + 1) = nodeOf (l + 1) (pg * 8 + k) := by
                have hs4 := Hs4.out
                rw [← hcj]
                obtain rfl | rfl | rfl : l = 0 ∨ l = 1 ∨ l = 2 := by omega
                · have : s = 512 := by rw [← hs4]
                  subst this; simp [nd, nodeOf]; omega
                · have : s = 64 := by rw [← hs4]
                  subst this; simp [nd, nodeOf]; omega
                · have : s = 8 := by rw [← hs4]
                  subst this; simp [nd, nodeOf]; omega
              rw [e]; exact hc
          have Hz := Lib.hid hz
          clear he hc heb hz
          gi_wp2_with (refine ⟨trivial, hdd _, ?_⟩; gi_at_call 55; refine (Hen.out _ HPr.out).mono ?_; rintro e w2 ⟨rfl, hb2⟩)
          go_roundw
          case rel => exact ⟨k + 1, by omega, by go_num, by rw [Hs.out, Hz.out, List.append_nil]; exact HJg.out _ _ _ HJr.out (below_grows hb2), HBr.out.trans (hb2.mono (by omega))⟩
          case measure => simp [intOf]; omega
        · obtain ⟨c, hcc⟩ : ∃ c, N (nodeOf (l + 1) (pg * 8 + k)) = c := ⟨_, rfl⟩
          have hcn : nodeOf (l + 1) (pg * 8 + k) < 585 := by rw [← Hnode.out k hlt]; omega
          have hcb := HT.out.bd _ hcn hc
          have hpn := HPr.out.hi
          rw [hcc] at hcb
          have he : ent P t k % 2 = 1 ∧ ent P t k / 256 = c := by
            rw [Hent.out, if_neg hc, hcc]; omega
          obtain ⟨x, hx⟩ : ∃ x, ent P t k = x := ⟨_, rfl⟩
          rw [hx] at heb Hen he
          have ha : bits .and .u64 x 1 = 1 := by rw [and1_u64 _ heb.1 heb.2]; exact he.1
          have hor : bits .or .i64 ((pg : Int) * 8) k = ((pg * 8 + k : Nat) : Int) := by rw [or8_i64 _ _ (by omega) (by omega) (by omega) (by omega)]; omega
          have hsh : x / 256 = c := he.2
          have hle : pgs F a0 (8 * s) = pgs F a0 ((k + 1) * s) ++ pgs F (a0 + (k + 1) * s) (8 * s - (k + 1) * s) := by
            rw [← pgs_add]; congr 1
            have : (k + 1) * s ≤ 8 * s := Nat.mul_le_mul_right s (by omega)
            omega
          have Hle := Lib.hid hle
          have Hyd : Hid (∀ w2, PoolAt w2 pb db ob P → n₀ ≤ w2.heap.size → J (pre ++ pgs F a0 (k * s)) w2 → CallsIn Fence.wide (n - 1) Try.prog 61 #[.pointer (some ⟨pb, 0, none⟩), .int .i64 c, .int .i64 ((l : Int) + 1), .int .i64 ((pg * 8 + k : Nat) : Int), .func (.yield lp) #[] #[]] w2 fun e W' =>
              (e = .returned (.bool true) ∧ J (pre ++ pgs F a0 ((k + 1) * s)) W' ∧ Below n₀ w2 W') ∨ (e = .returned (.bool false) ∧ ∃ q, q <+: pgs F a0 (8 * s) ∧ Jx (pre ++ q) W')) := fun w2 h1 h2 h3 => by
            have h4 := Ih.out (l + 1) (pg * 8 + k) (by omega) (Hpg.out k hlt) hc (n - 1) (pre ++ pgs F a0 (k * s)) w2 h1 h2 h3
            rw [Hs4.out, Hca.out k, hcc] at h4
            have h5 := h4 (by
              have := HN.out
              rw [Hle.out, Hs.out] at this
              simp at this ⊢; omega)
            rw [show ((l + 1 : Nat) : Int) = (l : Int) + 1 by omega] at h5
            refine h5.mono fun e W' h => ?_
            rcases h with ⟨e1, e2, e3⟩ | ⟨e1, q, e2, e3⟩
            · exact .inl ⟨e1, by rw [Hs.out, ← List.append_assoc]; exact e2, e3⟩
            · refine .inr ⟨e1, pgs F a0 (k * s) ++ q, ?_, by rw [← List.append_assoc]; exact e3⟩
              rw [Hle.out, Hs.out, List.append_assoc]
              exact (List.prefix_append_right_inj _).2 (e2.trans (List.prefix_append _ _))
          obtain ⟨p, hp⟩ : ∃ p, pg * 8 + k = p := ⟨_, rfl⟩
          rw [hp] at hor Hyd
          have hpgb : (pg : Int) * 8 ≤ 4096 := by omega
          clear hx hc he hle hp hcc
          gi_wp2_with (first
            | (refine ⟨trivial, hdd _, ?_⟩; gi_at_call 55; refine (Hen.out _ HPr.out).mono ?_; rintro e w2 ⟨rfl, hb2⟩)
            | (refine ⟨trivial, hdd _, ?_⟩; gi_at_call 61; refine (Hyd.out _ (HPr.out.below hb2) (by have := hb2.size; omega) (HJg.out _ _ _ HJr.out (below_grows hb2))).mono ?_; rintro e W3 (⟨rfl, hJ3, hB3⟩ | ⟨rfl, q, hq, hx3⟩)))
          · go_roundw
            case rel => exact ⟨k + 1, by omega, by go_num, hJ3, HBr.out.trans ((hb2.mono (by omega)).trans hB3)⟩
            case measure => simp [intOf]; omega
          · go_ret
            exact .inr ⟨rfl, _, hq, hx3⟩
      · obtain rfl : k = 8 := by omega
        have hlt' : ¬ ((8 : Nat) : Int) < 8 := by omega
        gi_wp2
        go_ret
        exact .inl ⟨rfl, HJr.out, HBr.out⟩
end Go.Proofs.Ytndnjimiabpkpaa
