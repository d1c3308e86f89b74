/- Of the proof of this claim: a joined text. -/
import Derived.Test.YtiadbhiadhgjkaaGreatDoorZzKm
import Derived.Test.YtiadbhiadhgjkaaGreatDoorZzLib
import Derived.Deep.LoopGhost
import Derived.Deep.QuietTactic
import Derived.BigQuiet
set_option maxRecDepth 100000
set_option maxHeartbeats 40000000
namespace Go.Proofs.YtiadbhiadhgjkaaGreatDoor
open Go.RowKit
theorem drewN_one (w : World) : w.drewN 1 = w.drew := rfl
attribute [local irreducible] World.setCell World.alloc World.drew Calls Code.wp
attribute [local go_sem] Oper.semAt_some
theorem bothF_more (da db : Nat) : ∀ (g : Nat) (l m : List (Nat × Nat)), l.length + m.length <= g -> bothF da db (g + 1) l m = bothF da db g l m
 | 0, [], [], _ => rfl
 | 0, x :: l, m, h => by simp at h
 | 0, [], y :: m, h => by simp at h
 | g + 1, [], [], _ => rfl
 | g + 1, (c, x) :: l, [], h => by
  show _ :: bothF da db (g + 1) l [] = _ :: bothF da db g l []
  rw [bothF_more da db g l [] (by simp at h ⊢; omega)]
 | g + 1, [], (e, y) :: m, h => by
  show _ :: bothF da db (g + 1) [] m = _ :: bothF da db g [] m
  rw [bothF_more da db g [] m (by simp at h ⊢; omega)]
 | g + 1, (c, x) :: l, (e, y) :: m, h => by
  rw [bothF, bothF];simp only [List.length_cons] at h;split
  ·rw [bothF_more da db g l ((e, y) :: m) (by simp only [List.length_cons]; omega)]
  ·split
   ·rw [bothF_more da db g ((c, x) :: l) m (by simp only [List.length_cons]; omega)]
   ·rw [bothF_more da db g l m (by omega)]
def bothG (da db : Nat) (l m : List (Nat × Nat)) : List (Nat × Nat × Nat) := bothF da db (l.length + m.length) l m
theorem bothG_l (da db : Nat) (p : Nat × Nat) (l : List (Nat × Nat)) : bothG da db (p :: l) [] = (p.1, p.2, db) :: bothG da db l [] := rfl
theorem bothG_r (da db : Nat) (q : Nat × Nat) (m : List (Nat × Nat)) : bothG da db [] (q :: m) = (q.1, da, q.2) :: bothG da db [] m := by
 unfold bothG;rw [show ([] : List (Nat × Nat)).length + (q :: m).length = ([] : List (Nat × Nat)).length + m.length + 1 by simp];rfl
theorem bothG_lt (da db : Nat) (p q : Nat × Nat) (l m : List (Nat × Nat)) (h : p.1 < q.1) : bothG da db (p :: l) (q :: m) = (p.1, p.2, db) :: bothG da db l (q :: m) := by
 unfold bothG;rw [show (p :: l).length + (q :: m).length = (l.length + (q :: m).length) + 1 by simp only [List.length_cons]; omega];obtain ⟨c, x⟩ := p;obtain ⟨e, y⟩ := q;rw [bothF, if_pos h]
theorem bothG_gt (da db : Nat) (p q : Nat × Nat) (l m : List (Nat × Nat)) (h : q.1 < p.1) : bothG da db (p :: l) (q :: m) = (q.1, da, q.2) :: bothG da db (p :: l) m := by
 unfold bothG;rw [show (p :: l).length + (q :: m).length = ((p :: l).length + m.length) + 1 by simp only [List.length_cons]; omega];obtain ⟨c, x⟩ := p;obtain ⟨e, y⟩ := q;rw [bothF, if_neg (by simp only at h; omega), if_pos h]
theorem bothG_eq (da db : Nat) (p q : Nat × Nat) (l m : List (Nat × Nat)) (h : p.1 = q.1) : bothG da db (p :: l) (q :: m) = (p.1, p.2, q.2) :: bothG da db l m := by
 unfold bothG;rw [show (p :: l).length + (q :: m).length = (l.length + m.length + 1) + 1 by simp only [List.length_cons]; omega];obtain ⟨c, x⟩ := p;obtain ⟨e, y⟩ := q;rw [bothF, if_neg (by simp only at h; omega), if_neg (by simp only at h; omega), bothF_more da db _ l m (Nat.le_refl _)]
def bothY (a b : Lab) : List (Nat × Nat × Nat) := (0, a.d, b.d) :: bothL a b
def LabBox (w : World) (b : Nat) (l : Lab) : Prop := ∃ s, Blk w b #[.int .i64 (l.d : Nat), s] 43 /\ PairsIn w s l.ps
theorem LabBox.open {w : World} {b : Nat} {l : Lab} (h : LabBox w b l) : ∃ ra ca, w.cell? ⟨b, 0, none⟩ = some (.int .i64 (l.d : Nat)) /\ w.cell? ⟨b, 1, none⟩ = some (.slice ra l.ps.length ca) /\ l.ps.length <= ca /\ PairsIn w (.slice ra l.ps.length ca) l.ps := by
 obtain ⟨s, h1, h2⟩ := h;obtain ⟨ra, ca, rfl, la1, la2⟩ := RowAt.form h2;exact ⟨ra, ca, by rw [h1.cell]; rfl, by rw [h1.cell]; rfl, la1, h2⟩
theorem both_in (a b : Lab) (A B : Nat) (fid : FuncId) (caps : Array Value) (I Ix : List (Nat × Nat × Nat) -> World -> Prop) (w : World)
  (hE : ∀ args w, (callFunc fid args).run Tryz.prog w = .ok (.enter fid args) w) (hbd : a.ps.length <= 1000 /\ b.ps.length <= 1000)
  (hIL : ∀ pre W, I pre W -> LabBox W A a /\ LabBox W B b) (hId : ∀ pre W n, I pre W -> I pre (W.drewN n))
  (hF : ∀ pre x W, I pre W -> pre ++ [x] <+: bothY a b -> Calls Tryz.prog fid (#[.int .u32 (x.1 : Nat), .int .i64 (x.2.1 : Nat), .int .i64 (x.2.2 : Nat)] ++ caps) W fun e W' =>
   (e = .returned (.bool true) /\ I (pre ++ [x]) W') \/ (e = .returned (.bool false) /\ Ix (pre ++ [x]) W'))
  (h0 : I [] w) :
  Calls Tryz.prog 106 #[.func (.func fid) #[] caps, .pointer (some ⟨A, 0, none⟩), .pointer (some ⟨B, 0, none⟩)] w fun e W =>
   e = .returned (.tuple #[]) /\ (I (bothY a b) W \/ ∃ pre, pre <+: bothY a b /\ Ix pre W) := by
 obtain ⟨b1, b2⟩ := hbd;have HId1 : Hid (∀ pre W, I pre W -> I pre W.drew) := fun pre W h => by rw [<- drewN_one]; exact hId pre W 1 h
 have HIL := Lib.hid hIL; have HId := Lib.hid hId; have HF := Lib.hid hF; have H0 := Lib.hid h0;obtain ⟨ra, ca, x0, x1, la, -⟩ := (hIL _ _ h0).1.open;obtain ⟨rb, cb, y0, y1, lb, -⟩ := (hIL _ _ h0).2.open;have Hf0 := Lib.hid (hF [] (0, a.d, b.d) w h0 ⟨bothL a b, rfl⟩);clear hIL hId hF h0;go_enter Tryz.func106, Tryz.ntmps106
 go_wp2_with fail
 refine Hf0.out.mono ?_;rintro e w1 (⟨rfl, h1⟩ | ⟨rfl, h1⟩);rotate_left
 ·go_wp2_with fail
  first | (refine bodyPost_end (results_none rfl _ _ _) rfl ?_) | (refine bodyPost_ret (results_none rfl _ _ _) rfl ?_)
  exact ⟨rfl, .inr ⟨_, ⟨bothL a b, rfl⟩, h1⟩⟩
 have H1 := Lib.hid h1;clear h1 x0 x1 y0 y1 la lb Hf0;have HA0 := Lib.hid (HIL.out _ _ H1.out).1;go_wp2_with fail
 go_loopg [4, 5, 6, 7, 8] (a.ps.length + b.ps.length) (fun g vi vk _ _ _ wx => ∃ (i k : Nat) (pre : List (Nat × Nat × Nat)), i + k + g = a.ps.length + b.ps.length /\ i <= a.ps.length /\ k <= b.ps.length /\ vi = .int .i64 i /\ vk = .int .i64 k /\ Hid (I pre wx) /\ Hid (bothY a b = pre ++ bothG a.d b.d (a.ps.drop i) (b.ps.drop k)))
 case atStart => exact ⟨0, 0, _, by omega, by omega, by omega, rfl, rfl, H1, Lib.hid rfl⟩
 case round =>
  obtain ⟨i, k, pre, hgk, hia, hkb, rfl, rfl, HI, HE⟩ := hrel;obtain ⟨ra, ca, x0, x1, la, hpa⟩ := (HIL.out _ _ HI.out).1.open;obtain ⟨rb, cb, y0, y1, lb, hpb⟩ := (HIL.out _ _ HI.out).2.open;have Hpa := Lib.hid hpa; have Hpb := Lib.hid hpb;clear hpa hpb HA0 H1;go_upto_region 2 with fail
  go_cut [27] (fun v wx => v = .bool (decide (i < a.ps.length \/ k < b.ps.length)) /\ wr = wx)
  case first =>
   by_cases hi : i < a.ps.length
   ·have hi' : (i : Int) < a.ps.length := by omega
    have Hd : Hid (decide (i < a.ps.length \/ k < b.ps.length) = true) := decide_eq_true (.inl hi);go_wp2_with fail
    go_meet;exact ⟨by rw [Hd.out], rfl⟩
   ·have hi' : ¬ (i : Int) < a.ps.length := by omega
    by_cases hk : k < b.ps.length
    ·have hk' : (k : Int) < b.ps.length := by omega
     have Hd : Hid (decide (i < a.ps.length \/ k < b.ps.length) = true) := decide_eq_true (.inr hk);go_wp2_with fail
     go_meet;exact ⟨by rw [Hd.out], rfl⟩
    ·have hk' : ¬ (k : Int) < b.ps.length := by omega
     have Hd : Hid (decide (i < a.ps.length \/ k < b.ps.length) = false) := decide_eq_false (fun h => h.elim hi hk);go_wp2_with fail
     go_meet;exact ⟨by rw [Hd.out], rfl⟩
  case rest =>
  obtain ⟨rfl, hwc⟩ := hcut;obtain rfl : wr = wc := hwc;by_cases hend : i < a.ps.length \/ k < b.ps.length
  rotate_left
  ·have hall : bothY a b = pre := by
    rw [HE.out, List.drop_eq_nil_of_le (by omega), List.drop_eq_nil_of_le (by omega)]; exact List.append_nil _
   have Hall := Lib.hid hall;rw [decide_eq_false hend];clear hall;go_wp2_with fail
   first | (refine bodyPost_end (results_none rfl _ _ _) rfl ?_) | (refine bodyPost_ret (results_none rfl _ _ _) rfl ?_)
   exact ⟨rfl, .inl (by rw [Hall.out]; exact HI.out)⟩
  rw [decide_eq_true hend];go_wp2_with fail
  go_quiet (fail)
  go_upto_block 2 with fail
  go_cut [4, 5, 6, 7, 8, 54, 96] (fun v4 v5 v6 v7 v8 _ _ wx => ∃ (x : Nat × Nat × Nat) (i' k' : Nat), v4 = .int .i64 i' /\ v5 = .int .i64 k' /\ v6 = .int .u32 (x.1 : Nat) /\ v7 = .int .i64 (x.2.1 : Nat) /\ v8 = .int .i64 (x.2.2 : Nat) /\ i + k < i' + k' /\ i' <= a.ps.length /\ k' <= b.ps.length /\ Hid (bothY a b = (pre ++ [x]) ++ bothG a.d b.d (a.ps.drop i') (b.ps.drop k')) /\ Hid (I pre wx))
  case first =>
   by_cases hi : i < a.ps.length
   ·obtain ⟨p, hp⟩ : ∃ p, a.ps[i]? = some p := ⟨_, List.getElem?_eq_getElem hi⟩
    obtain ⟨pb, rfl, -, p0, p1⟩ := PairsIn.at Hpa.out hp;have hi' : (i : Int) < a.ps.length := by omega
    have hib : ((i : Int) == (a.ps.length : Int)) = false := by simp; omega
    have hda := drop_at hp;by_cases hk : k < b.ps.length
    ·obtain ⟨q, hq⟩ : ∃ q, b.ps[k]? = some q := ⟨_, List.getElem?_eq_getElem hk⟩
     obtain ⟨qb, rfl, -, q0, q1⟩ := PairsIn.at Hpb.out hq;have hk' : (k : Int) < b.ps.length := by omega
     have hkb' : ((k : Int) == (b.ps.length : Int)) = false := by simp; omega
     have hdb := drop_at hq;by_cases c1 : p.1 < q.1
     ·have c1' : (p.1 : Int) < (q.1 : Int) := by omega
      have hG := (by rw [hda, hdb]; exact bothG_lt a.d b.d p q _ _ c1 : bothG a.d b.d (a.ps.drop i) (b.ps.drop k) = (p.1, p.2, b.d) :: bothG a.d b.d (a.ps.drop (i + 1)) (b.ps.drop k));have hnx : bothY a b = (pre ++ [(p.1, p.2, b.d)]) ++ bothG a.d b.d (a.ps.drop (i + 1)) (b.ps.drop k) := by rw [HE.out, hG, List.append_assoc]; rfl
      have Hnx := Lib.hid hnx;clear hG hnx hda hdb hp hq;go_wp2_with fail
      go_quiet (fail)
      go_wp2_with fail
      go_quiet (fail)
      go_wp2_with fail
      go_meet;exact ⟨(p.1, p.2, b.d), (i + 1), k, by first | rfl | go_num, by first | rfl | go_num, rfl, rfl, rfl, by omega, by omega, by omega, Hnx, Lib.hid (by repeat (first | with_reducible exact HI.out | with_reducible refine HId.out _ _ _ ?_ | with_reducible refine HId1.out _ _ ?_))⟩
     ·by_cases c2 : q.1 < p.1
      ·have c1' : ¬ (p.1 : Int) < (q.1 : Int) := by omega
       have c2' : (q.1 : Int) < (p.1 : Int) := by omega
       have hG := (by rw [hda, hdb]; exact bothG_gt a.d b.d p q _ _ c2 : bothG a.d b.d (a.ps.drop i) (b.ps.drop k) = (q.1, a.d, q.2) :: bothG a.d b.d (a.ps.drop i) (b.ps.drop (k + 1)));have hnx : bothY a b = (pre ++ [(q.1, a.d, q.2)]) ++ bothG a.d b.d (a.ps.drop i) (b.ps.drop (k + 1)) := by rw [HE.out, hG, List.append_assoc]; rfl
       have Hnx := Lib.hid hnx;clear hG hnx hda hdb hp hq;go_wp2_with fail
       go_quiet (fail)
       go_wp2_with fail
       go_quiet (fail)
       go_wp2_with fail
       go_quiet (fail)
       go_wp2_with fail
       go_meet;exact ⟨(q.1, a.d, q.2), i, (k + 1), by first | rfl | go_num, by first | rfl | go_num, rfl, rfl, rfl, by omega, by omega, by omega, Hnx, Lib.hid (by repeat (first | with_reducible exact HI.out | with_reducible refine HId.out _ _ _ ?_ | with_reducible refine HId1.out _ _ ?_))⟩
      ·have c1' : ¬ (p.1 : Int) < (q.1 : Int) := by omega
       have c2' : ¬ (q.1 : Int) < (p.1 : Int) := by omega
       have hG := (by rw [hda, hdb]; exact bothG_eq a.d b.d p q _ _ (by omega) : bothG a.d b.d (a.ps.drop i) (b.ps.drop k) = (p.1, p.2, q.2) :: bothG a.d b.d (a.ps.drop (i + 1)) (b.ps.drop (k + 1)));have hnx : bothY a b = (pre ++ [(p.1, p.2, q.2)]) ++ bothG a.d b.d (a.ps.drop (i + 1)) (b.ps.drop (k + 1)) := by rw [HE.out, hG, List.append_assoc]; rfl
       have Hnx := Lib.hid hnx;clear hG hnx hda hdb hp hq;go_wp2_with fail
       go_quiet (fail)
       go_wp2_with fail
       go_quiet (fail)
       go_wp2_with fail
       go_quiet (fail)
       go_wp2_with fail
       go_meet;exact ⟨(p.1, p.2, q.2), (i + 1), (k + 1), by first | rfl | go_num, by first | rfl | go_num, rfl, rfl, rfl, by omega, by omega, by omega, Hnx, Lib.hid (by repeat (first | with_reducible exact HI.out | with_reducible refine HId.out _ _ _ ?_ | with_reducible refine HId1.out _ _ ?_))⟩
    ·obtain rfl : k = b.ps.length := by omega
     have hdb : b.ps.drop b.ps.length = [] := List.drop_length;have hG := (by rw [hda, hdb]; exact bothG_l a.d b.d p _ : bothG a.d b.d (a.ps.drop i) (b.ps.drop b.ps.length) = (p.1, p.2, b.d) :: bothG a.d b.d (a.ps.drop (i + 1)) (b.ps.drop b.ps.length));have hnx : bothY a b = (pre ++ [(p.1, p.2, b.d)]) ++ bothG a.d b.d (a.ps.drop (i + 1)) (b.ps.drop b.ps.length) := by rw [HE.out, hG, List.append_assoc]; rfl
     have Hnx := Lib.hid hnx;clear hG hnx hda hdb hp;go_wp2_with fail
     go_region
     go_wp2_with fail
     go_quiet (fail)
     go_wp2_with fail
     go_meet;exact ⟨(p.1, p.2, b.d), (i + 1), b.ps.length, by first | rfl | go_num, by first | rfl | go_num, rfl, rfl, rfl, by omega, by omega, by omega, Hnx, Lib.hid (by repeat (first | with_reducible exact HI.out | with_reducible refine HId.out _ _ _ ?_ | with_reducible refine HId1.out _ _ ?_))⟩
   ·obtain rfl : i = a.ps.length := by omega
    have hda : a.ps.drop a.ps.length = [] := List.drop_length;have hk : k < b.ps.length := by omega
    obtain ⟨q, hq⟩ : ∃ q, b.ps[k]? = some q := ⟨_, List.getElem?_eq_getElem hk⟩;obtain ⟨qb, rfl, -, q0, q1⟩ := PairsIn.at Hpb.out hq;have hk' : (k : Int) < b.ps.length := by omega
    have hkb' : ((k : Int) == (b.ps.length : Int)) = false := by simp; omega
    have hdb := drop_at hq;have hG := (by rw [hda, hdb]; exact bothG_r a.d b.d q _ : bothG a.d b.d (a.ps.drop a.ps.length) (b.ps.drop k) = (q.1, a.d, q.2) :: bothG a.d b.d (a.ps.drop a.ps.length) (b.ps.drop (k + 1)));have hnx : bothY a b = (pre ++ [(q.1, a.d, q.2)]) ++ bothG a.d b.d (a.ps.drop a.ps.length) (b.ps.drop (k + 1)) := by rw [HE.out, hG, List.append_assoc]; rfl
    have Hnx := Lib.hid hnx;clear hG hnx hda hdb hq;go_wp2_with fail
    go_region
    go_wp2_with fail
    go_region
    go_wp2_with fail
    go_quiet (fail)
    go_wp2_with fail
    go_meet;exact ⟨(q.1, a.d, q.2), a.ps.length, (k + 1), by first | rfl | go_num, by first | rfl | go_num, rfl, rfl, rfl, by omega, by omega, by omega, Hnx, Lib.hid (by repeat (first | with_reducible exact HI.out | with_reducible refine HId.out _ _ _ ?_ | with_reducible refine HId1.out _ _ ?_))⟩
  case rest =>
  obtain ⟨x, i', k', rfl, rfl, rfl, rfl, rfl, hlt, hi2, hk2, Hnx, HI2⟩ := hcut;have Hx := Lib.hid (HF.out pre x wc HI2.out ⟨_, Hnx.out.symm⟩);clear x0 x1 y0 y1 la lb Hpa Hpb;go_wp2_with fail
  refine Hx.out.mono ?_;rintro e w2 (⟨rfl, h2⟩ | ⟨rfl, h2⟩)
  ·have H2 := Lib.hid h2
   clear h2;go_wp2_with fail
   go_roundg (a.ps.length + b.ps.length - i' - k')
   case measure => omega
   case rel => exact ⟨i', k', pre ++ [x], by omega, hi2, hk2, rfl, rfl, H2, Hnx⟩
  ·have H2 := Lib.hid h2
   have Hp := Lib.hid (show pre ++ [x] <+: bothY a b from ⟨_, Hnx.out.symm⟩);clear h2;go_wp2_with fail
   first | (refine bodyPost_end (results_none rfl _ _ _) rfl ?_) | (refine bodyPost_ret (results_none rfl _ _ _) rfl ?_)
   exact ⟨rfl, .inr ⟨_, Hp.out, H2.out⟩⟩
end Go.Proofs.YtiadbhiadhgjkaaGreatDoor
