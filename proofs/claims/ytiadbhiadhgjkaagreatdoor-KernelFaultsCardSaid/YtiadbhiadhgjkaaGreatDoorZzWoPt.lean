/- Of the proof of this claim: a joined text. -/
import Derived.Test.YtiadbhiadhgjkaaGreatDoorZzWoHm
import Derived.Deep.RegionHeld3
import Derived.Test.YtiadbhiadhgjkaaGreatDoorZzNd
import Derived.Test.YtiadbhiadhgjkaaGreatDoorZzLib
set_option maxRecDepth 100000
set_option maxHeartbeats 8000000
namespace Go.Proofs.YtiadbhiadhgjkaaGreatDoor
open Go.RowKit
attribute [local irreducible] World.setCell World.alloc World.drew World.setRow Calls Code.wp row
theorem putL_cells (n : Nat) (x : Int) : (putL n x).map byteV = (List.range n).map fun j => Value.int .u8 (byN n x j) := by
 unfold putL;rw [List.map_map];refine List.map_congr_left fun j _ => ?_
 have h := byN_bd n x j;show Value.int .u8 ((UInt8.ofNat (byN n x j).toNat).toNat : Int) = _
 have e : ((UInt8.ofNat (byN n x j).toNat).toNat : Int) = byN n x j := by
  rw [UInt8.toNat_ofNat', Nat.mod_eq_of_lt (by omega)]; omega
 rw [e]
theorem bytes_one (l : List UInt8) : ∀ v ∈ l.map byteV, v.oneCell' = true := fun v hv => by obtain ⟨j, _, rfl⟩ := List.mem_map.1 hv; rfl
theorem owns_src {w : World} {g0 : Nat} {bs : List UInt8} {a : Addr} {m c : Nat} (h : w.ownsRow g0 5 1 (.slice (some a) m c) m (bs.map byteV)) : ∀ (j : Nat) (u : Value), (bs.map byteV)[j]? = some u -> w.cell? (a.add j) = some u := by
 intro j u hu;obtain ⟨b, e, _, hc⟩ := RowAt.cells (RowAt.own h) (by have := h.1; have := (List.getElem?_eq_some_iff.1 hu).1; omega)
 cases e;rw [Addr.add_lit];have := hc j u hu;rwa [Nat.zero_add]
theorem put2_any (g0 : Nat) (bs : List UInt8) (v : Value) (n : Nat) (x : Int) (w : World) (h : w.ownsRow g0 5 1 v bs.length (bs.map byteV)) (hl : bs.length <= 1000000) (h8 : n <= 8) (h0 : 0 <= x) (h1 : x <= 18446744073709551615) :
  Calls Tryz.prog 58 #[v, .int .i64 n, .int .u64 x] w fun e w' =>
   ∃ v', e = .returned v' /\ w'.ownsRow w.heap.size 5 1 v' (bs ++ putL n x).length ((bs ++ putL n x).map byteV) /\ Below w.heap.size w w' := by
 obtain ⟨i0, hi, hz0, hz1, hz2⟩ := info_parts info5;have Hi := Lib.hid hi; have Hz0 := Lib.hid hz0; have Hz1 := Lib.hid hz1; have Hz2 := Lib.hid hz2;clear hi hz0 hz1 hz2;have H0 := Lib.hid h0; have H1 := Lib.hid h1; have Hw := Lib.hid h;have HL := Lib.hid (show (bs ++ putL n x).length = bs.length + n by simp [putL]);have HC := Lib.hid (show (bs ++ putL n x).map byteV = bs.map byteV ++ (List.range n).map fun j => Value.int .u8 (byN n x j) by rw [List.map_append, putL_cells]);rw [HL.out, HC.out];clear h1;have key : ∀ (w1 : World) (v1 : Value), w1.ownsRow w.heap.size 5 1 v1 bs.length (bs.map byteV) -> Below w.heap.size w w1 -> True := fun _ _ _ _ => trivial
 rcases h.2 with ⟨rfl, hn0⟩ | ⟨g, cap, cur, rfl, -, -, -, -, -, -⟩
 ·obtain rfl : bs = [] := List.length_eq_zero_iff.1 hn0
  refine (put_any n x w h8 H0.out H1.out).mono ?_;rintro e w' ⟨v, rfl, hv, hb⟩;exact ⟨v, rfl, by simpa using hv, hb⟩
 clear h key;go_enter Tryz.func58, Tryz.ntmps58
 go_wp2_with (at_builtin; refine wpList_append_own _ rfl _ _ 63 rfl w.heap.size 5 i0 (.int .u8 0) 1 1 Tryz.underlying63 Hi.out Hz0.out Hz1.out Hz2.out rfl (by decide) _ 0 [] rfl (World.ownsRow_nil _ _ _ _) ⟨g, 0, none⟩ bs.length cap (bs.map byteV) rfl (by simp) (owns_src Hw.out) (bytes_one bs) (by unfold maxLen; omega) (by omega) (Nat.le_refl _) ?_; intro v1 w1 hown1 hgrow1 _; rw [Nat.zero_add, List.nil_append] at hown1)
 have hb1 : Below w.heap.size w w1 := Below.grown (Below.refl _ _) hgrow1 (Nat.le_refl _) (fun k hk => by cases hk);go_loopg [7, 8] n (fun g v i wx => ∃ k : Nat, k = g /\ k <= n /\ i = .int .i64 k /\ wx.ownsRow w.heap.size 5 1 v (bs.length + (n - k)) (bs.map byteV ++ (List.range (n - k)).map fun j => Value.int .u8 (byN n x j)) /\ Below w.heap.size w wx)
 case atStart => exact ⟨n, rfl, Nat.le_refl _, rfl, by rw [Nat.sub_self]; simpa using hown1, hb1⟩
 case round =>
  obtain ⟨k, rfl, hk, rfl, hown, hb⟩ := hrel;have Hown := Lib.hid hown; have Hb := Lib.hid hb;clear hown hb hown1 hb1 hgrow1;by_cases hlt : 0 < k
  ·obtain ⟨q, rfl⟩ : ∃ q, k = q + 1 := ⟨k - 1, by omega⟩
   have e1 : ((q + 1 : Nat) : Int) = (q : Int) + 1 := by omega
   rw [e1];clear e1;have hq8 : q < 8 := by omega
   have hby : x / 2 ^ (8 * q) % 256 = byN n x (n - (q + 1)) := by
    unfold byN;rw [show n - 1 - (n - (q + 1)) = q by omega, Int.pow_mul]; rfl
   have Hby := Lib.hid hby; clear hby;have hsz := Hb.out.size;go_wp2_with (at_builtin; refine wpList_append_own _ rfl _ _ 63 rfl w.heap.size 5 i0 (.int .u8 0) 1 1 Tryz.underlying63 Hi.out Hz0.out Hz1.out Hz2.out rfl (by decide) _ _ _ rfl (Hown.out.alloc _) ⟨wr.heap.size, 0, none⟩ 1 1 [.int .u8 (x / 2 ^ (8 * q) % 256)] rfl rfl (cell_one_new' _ _ _) (fun u hu => by simp at hu; rw [hu]; rfl) (by unfold maxLen; omega) (by omega) (by rw [World.size_alloc]; omega) ?_; intro v6 w6 hown6 hgrow6 _)
   go_roundg q
   case measure => omega
   case rel =>
    refine ⟨q, rfl, by omega, by go_num, ?_, (Hb.out.alloc hsz _).grown hgrow6 (by simp; omega) (fun k hk => (Hown.out.lt k hk).1)⟩;rw [Hby.out] at hown6;have e1 : n - q = (n - (q + 1)) + 1 := by omega
    rw [e1, List.range_succ, List.map_append, <- Nat.add_assoc, <- List.append_assoc];exact hown6
  ·obtain rfl : k = 0 := by omega
   go_wp2_with fail
   go_ret;exact ⟨_, rfl, Hown.out, Hb.out⟩
end Go.Proofs.YtiadbhiadhgjkaaGreatDoor
namespace Go.Proofs.YtiadbhiadhgjkaaGreatDoor
open Go.RowKit
attribute [local irreducible] World.setCell World.alloc World.drew World.setRow Calls Code.wp
attribute [local go_sem] Oper.semAt_some
theorem step_row_bytes {w : World} {ops : Array Oper} {o : Oper} {a : Act} {K : Act -> World -> Prop} {Q : Exit -> Act -> World -> Prop} {Z : Prop} (hgd : o.guard = none) (s x : Operand)
  (ho : o.op = .call { callee := .builtin .append, args := #[s, x], argTypes := #[63, 63] }) (base : Nat) (bs ds : List UInt8) (v xv : Value) (hs : a.eval s = v) (hown : w.ownsRow base 5 1 v bs.length (bs.map byteV))
  (hx : a.eval x = xv) (hd : DataIn w xv ds) (hl : bs.length + ds.length <= 1000000) (hb : base <= w.heap.size)
  (hk : ∀ v' w', w'.ownsRow base 5 1 v' (bs ++ ds).length ((bs ++ ds).map byteV) -> w.grownBy w' v.ownBlock -> K (a.put o.dst v') w') :
  if Region.wanted o (yielded ops a.tmps) = true then Oper.wp Tryz.prog o a w K Q else Z := by
 have hw : Region.wanted o (yielded ops a.tmps) = true := by simp [Region.wanted, hgd]
 rw [if_pos hw];obtain ⟨i, hi, hz, hsz, hby⟩ : ∃ i, Tryz.prog.info? 5 = some i /\ i.zero = some (.int .u8 0) /\ i.size = 1 /\ i.bytes = 1 := info_parts (by kernel_rfl)
 have hrun : ∃ v' w', (Builtin.append_ #[63, 63] o.type #[v, xv]).run Tryz.prog w = .ok v' w' /\ w'.ownsRow base 5 1 v' (bs ++ ds).length ((bs ++ ds).map byteV) /\ w.grownBy w' v.ownBlock := by
  obtain ⟨A, c, rfl, hc1, hc2⟩ := RowAt.form hd;rw [List.length_append, List.map_append]
  cases A with
  | none =>
   have h0 : ds = [] := by
    cases ds with
    | nil => rfl
    | cons x r => obtain ⟨b, e, -⟩ := RowAt.cells hd (by simp); cases e
   subst h0;simp only [List.length_nil, Nat.add_zero, List.map_nil, List.append_nil];refine ⟨v, w, ?_, hown, World.grownBy.refl w _⟩;rcases hown.2 with ⟨rfl, hn⟩ | ⟨g, cap, cur, rfl, -, -, h3, -⟩
   ·simp [Builtin.append_, run_underlying Tryz.underlying63, sizeOf, typeInfo, hi, Builtin.lenOf, Builtin.firstCells]
   ·simp [Builtin.append_, run_underlying Tryz.underlying63, sizeOf, typeInfo, hi, Builtin.lenOf, Builtin.firstCells, h3, storeCells]
  | some ad =>
   have hcl : ∀ j u, (ds.map byteV)[j]? = some u -> w.cell? (ad.add j) = some u := fun j u hu => by
    obtain ⟨b, e, -, hcl⟩ := RowAt.cells hd (by have := (List.getElem?_eq_some_iff.1 hu).1; rw [List.length_map] at this; omega)
    cases e;rw [Addr.add_lit, Nat.zero_add];exact hcl j u hu
   obtain ⟨v', w', h1, h2, h3, _⟩ := run_append_own (P := Tryz.prog) w base 63 o.type 5 i (.int .u8 0) 1 1 Tryz.underlying63 hi hz hsz hby rfl (by omega) v bs.length (bs.map byteV) hown ad ds.length c (ds.map byteV) (by simp) hcl (bytes_one ds) (by unfold maxLen; omega) (by omega) hb;exact ⟨v', w', h1, h2, h3⟩
 obtain ⟨v', w', hr, h2, h3⟩ := hrun;unfold Oper.wp execOp;simp only [ho, resolve, invoke, builtin, Sem.run_bind, Sem.run_pure, Result.andThen_ok, List.map_toArray, List.map_cons, List.map_nil, hs, hx, hr];exact hk v' w' h2 h3
theorem data_new (w : World) (ds : List UInt8) (hl : ds.length <= 1000000) : DataIn (w.alloc (.cells (ds.map byteV).toArray 5)) (.slice (some ⟨w.heap.size, 0, none⟩) ds.length ds.length) ds :=
 ⟨_, _, rfl, Nat.le_refl _, by unfold maxLen; omega, .inr ⟨_, _, (0, 0), rfl, Blk.new _ _ _, fun j u hu => by simpa using hu⟩⟩
theorem putL_one (x : Int) (h0 : 0 <= x) (h1 : x < 256) : putL 1 x = [UInt8.ofNat x.toNat] := by
 have : byN 1 x 0 = x := by unfold byN; simp; omega
 simp [putL, this]
theorem byteV_of (x : Int) (h0 : 0 <= x) (h1 : x < 256) : byteV (UInt8.ofNat x.toNat) = .int .u8 x := by
 unfold byteV;rw [show ((UInt8.ofNat x.toNat).toNat : Int) = x by simp; omega]
theorem data_two (wq : World) (x y : Int) (hx : 0 <= x /\ x < 256) (hy : 0 <= y /\ y < 256) : DataIn (wq.alloc (.cells #[.int .u8 x, .int .u8 y] 5)) (.slice (some ⟨wq.heap.size, 0, none⟩) 2 2) (putL 1 x ++ putL 1 y) := by
 have h := data_new wq [UInt8.ofNat x.toNat, UInt8.ofNat y.toNat] (by simp)
 have e : ([UInt8.ofNat x.toNat, UInt8.ofNat y.toNat].map byteV).toArray = #[Value.int .u8 x, .int .u8 y] := by
  simp only [List.map_cons, List.map_nil, byteV_of x hx.1 hx.2, byteV_of y hy.1 hy.2]
 rw [e] at h;rw [putL_one x hx.1 hx.2, putL_one y hy.1 hy.2];exact h
theorem data_one (wq : World) (x : Int) (hx : 0 <= x /\ x < 256) : DataIn (wq.alloc (.cells #[.int .u8 x] 5)) (.slice (some ⟨wq.heap.size, 0, none⟩) 1 1) (putL 1 x) := by
 have h := data_new wq [UInt8.ofNat x.toNat] (by simp)
 have e : ([UInt8.ofNat x.toNat].map byteV).toArray = #[Value.int .u8 x] := by
  simp only [List.map_cons, List.map_nil, byteV_of x hx.1 hx.2]
 rw [e] at h;rw [putL_one x hx.1 hx.2];exact h
def pairP (p : Nat × Nat) : List UInt8 := putL 4 (p.1 : Nat) ++ putL 1 (p.2 : Nat)
theorem labP_eq (l : Lab) : labP l = putL 1 (l.d : Nat) ++ putL 1 (l.ps.length : Nat) ++ l.ps.flatMap pairP := by
 unfold labP; rw [List.append_assoc]; rfl
theorem putlab_any (g0 : Nat) (bs : List UInt8) (v lv : Value) (l : Lab) (w : World) (h : w.ownsRow g0 5 1 v bs.length (bs.map byteV)) (hl : bs.length <= 900000) (hL : LabIn w lv l) (hr : l.right = true) :
  Calls Tryz.prog 31 #[v, lv] w fun e w' => ∃ v', e = .returned v' /\ w'.ownsRow w.heap.size 5 1 v' (bs ++ labP l).length ((bs ++ labP l).map byteV) /\ Below w.heap.size w w' := by
 obtain ⟨s, rfl, hP⟩ := hL;obtain ⟨la, lc, rfl, hc1, hc2⟩ := RowAt.form hP;obtain ⟨⟨d1, d4⟩, hn, hp⟩ := Lab.right_spec hr;have hD : DataIn w v bs := RowAt.own h;obtain ⟨va, vc, rfl, -, -⟩ := RowAt.form hD;obtain ⟨w1, hw1⟩ : ∃ w1 : World, w1 = w.alloc (.cells #[.int .i64 (l.d : Nat), .slice la l.ps.length lc] 43) := ⟨_, rfl⟩;obtain ⟨xb, hxb⟩ : ∃ xb, xb = w.heap.size := ⟨_, rfl⟩;have HX : Hid (Blk w1 xb #[.int .i64 (l.d : Nat), .slice la l.ps.length lc] 43) := by rw [hw1, hxb]; exact Blk.new _ _ _
 have HB1 : Hid (Below w.heap.size w w1) := by rw [hw1]; exact (Below.refl _ w).alloc (Nat.le_refl _) _
 have HD := Lib.hid (fun w' (k : Below w.heap.size w w') => (RowAt.below hD k (Nat.le_refl _) : DataIn w' _ bs));have HP := Lib.hid (fun w' (k : Below w.heap.size w w') => (RowAt.below hP k (Nat.le_refl _) : PairsIn w' _ l.ps));have Hp := Lib.hid hp;have hwd : IntKind.u8.wrap (l.d : Int) = l.d := IntWalk.u8_in _ (by omega);have hwn : IntKind.u8.wrap (l.ps.length : Int) = l.ps.length := IntWalk.u8_in _ (by omega);have Hdat := Lib.hid (fun wq => data_two wq (l.d : Nat) (l.ps.length : Nat) ⟨by omega, by omega⟩ ⟨by omega, by omega⟩);have hlen2 : (putL 1 ((l.d : Nat) : Int) ++ putL 1 ((l.ps.length : Nat) : Int)).length = 2 := rfl;obtain ⟨D2, hD2⟩ : ∃ D2, putL 1 ((l.d : Nat) : Int) ++ putL 1 ((l.ps.length : Nat) : Int) = D2 := ⟨_, rfl⟩;have HLP : Hid (bs ++ labP l = bs ++ D2 ++ l.ps.flatMap pairP) := by show _ = _; rw [labP_eq, <- hD2]; simp
 rw [hD2] at Hdat hlen2;have hcx := HX.out.cell;have Hown := Lib.hid h
 have HSS : Hid (∀ w', Below w1.heap.size w1 w' -> w'.cell? ⟨xb, 0, none⟩ = some (.int .i64 (l.d : Nat)) /\ w'.cell? ⟨xb, 1, none⟩ = some (.slice la l.ps.length lc)) := fun w' k => by
  have h1 := Blk.below HX.out k HX.out.lt;exact ⟨h1.cell 0, h1.cell 1⟩
 have HBd : Hid (Below w.heap.size w w1.drew) := HB1.out.drew;have hsz1 := HB1.out.size;rw [HLP.out];clear h hD hP hp hr hD2;go_enter Tryz.func31, Tryz.ntmps31
 go_upto_region 1 with fail
 rw [<- hw1, <- hxb];have Hxb := Lib.hid hxb;clear hw1 hxb;go_cut [5] (fun v5 wx => Hid (wx.ownsRow w.heap.size 5 1 v5 (bs ++ D2).length ((bs ++ D2).map byteV)) /\ Hid (Below w.heap.size w wx) /\ Hid (Blk wx xb #[.int .i64 (l.d : Nat), .slice la l.ps.length lc] 43))
 case first =>
  have hx0 := HSS.out _ ((Below.refl _ w1).drew);obtain ⟨hx0a, hx0b⟩ := hx0;have HBz : Hid (Below w1.heap.size w1 (w1.alloc (.cells #[.int .u8 (l.d : Nat), .int .u8 (l.ps.length : Nat)] 5)).drew) := ((Below.refl _ w1).alloc (Nat.le_refl _) _).drew;have HDz := Lib.hid (RowAt.below (Hdat.out w1) ((Below.refl _ _).drew) (Nat.le_refl _));have hsd : w1.heap.size <= w1.drew.heap.size := by simp
  first
  | go_region_held3 (fun w' => w'.cell? ⟨xb, 0, none⟩ = some (.int .i64 (l.d : Nat)) /\ w'.cell? ⟨xb, 1, none⟩ = some (.slice la l.ps.length lc))
    (first | exact HSS.out _ ((Below.refl _ w1).drew) | exact HSS.out _ hba | exact HSS.out _ HBz.out | exact HSS.out _ hbb | exact HSS.out _ (Below.alloc hba hba.size _) | exact HSS.out _ hb5)
    ((first
     | (refine step_row_bytes (by rfl) (.const (.slice none 0 0)) (.tmp 8) (by rfl) w1.heap.size [] bs _ _ rfl (World.ownsRow_nil _ _ _ _) (by rfl) (HD.out _ HBd.out) (by simp; omega) hsd ?_; intro v1 wa howna hgrowa; have hba : Below w1.heap.size w1 wa := ((Below.refl _ w1).drew).grown hgrowa hsd (fun b e => by cases e); simp only [List.nil_append] at howna)
     | (refine step_row_bytes (by rfl) (.const (.slice none 0 0)) (.tmp 8) (by rfl) w1.heap.size [] bs _ _ rfl (World.ownsRow_nil _ _ _ _) (by rfl) (HD.out _ (bel_from HB1.out HBz.out)) (by simp; omega) HBz.out.size ?_; intro v1 wb hownb hgrowb; have hbb : Below w1.heap.size w1 wb := HBz.out.grown hgrowb HBz.out.size (fun b e => by cases e); simp only [List.nil_append] at hownb; have hdb := RowAt.below HDz.out ((Below.refl _ _).grown hgrowb (Nat.le_refl _) (fun b e => by cases e)) (Nat.le_refl _))
     | (refine step_row_bytes (by rfl) (.tmp 9) (.tmp 17) (by rfl) w1.heap.size bs D2 _ _ rfl (howna.alloc _) (by rfl) (Hdat.out wa) (by omega) (by rw [World.size_alloc]; have := hba.size; omega) ?_; intro v5 w5 hown5 hgrow5; have hb5 : Below w1.heap.size w1 w5 := (hba.alloc hba.size _).grown hgrow5 (by rw [World.size_alloc]; have := hba.size; omega) (fun b e => (howna.lt b e).1))
     | (refine step_row_bytes (by rfl) (.tmp 9) (.tmp 17) (by rfl) w1.heap.size bs D2 _ _ rfl hownb (by rfl) hdb (by omega) hbb.size ?_; intro v5 w5 hown5 hgrow5; have hb5 : Below w1.heap.size w1 w5 := hbb.grown hgrow5 hbb.size (fun b e => (hownb.lt b e).1))
     | fail))
  | fail
  all_goals
   go_wp2_with fail
   go_meet;exact ⟨Lib.hid (row_base hown5 HB1.out.size), Lib.hid (bel_from HB1.out hb5), Lib.hid (Blk.below HX.out hb5 HX.out.lt)⟩
 case rest =>
 obtain ⟨Ho5, Hb5, Hx5⟩ := hcut;have hcx := Hx5.out.cell;have Hsz5 : Hid (w.heap.size <= wc.heap.size) := Hb5.out.size;obtain ⟨B5, hB5⟩ : ∃ B5, bs ++ D2 = B5 := ⟨_, rfl⟩;have hl5 : B5.length <= 900002 := by rw [<- hB5, List.length_append]; omega
 rw [hB5] at Ho5;have HB5e := Lib.hid hB5;clear HSS HX HB1 HBd Hdat hB5 HLP Hown;go_wp2_with fail
 go_loopg [5, 7, 22] l.ps.length (fun g u5 _ vi wx => ∃ (k : Nat) (v5 : Value), k + g = l.ps.length /\ vi = .int .i64 k /\ v5 = u5 /\ Hid (wx.ownsRow w.heap.size 5 1 v5 (B5 ++ (l.ps.take k).flatMap pairP).length ((B5 ++ (l.ps.take k).flatMap pairP).map byteV)) /\ Hid (Below w.heap.size w wx))
 case atStart => exact ⟨0, _, by omega, rfl, rfl, by rw [List.take_zero, List.flatMap_nil, List.append_nil]; exact Ho5, Hb5⟩
 case round =>
  obtain ⟨k, v5, hk, rfl, rfl, HR, HB⟩ := hrel;by_cases hlt : k < l.ps.length
  ·have hlt' : (k : Int) < l.ps.length := by omega
   obtain ⟨q, hq⟩ : ∃ q, l.ps[k]? = some q := ⟨_, List.getElem?_eq_getElem hlt⟩;obtain ⟨b, rfl, -, q0, q1⟩ := PairsIn.at (HP.out wr HB.out) hq;obtain ⟨g1, g2⟩ := Hp.out q (List.mem_of_getElem? hq)
   have Hnx : Hid (B5 ++ (l.ps.take (k + 1)).flatMap pairP = B5 ++ (l.ps.take k).flatMap pairP ++ putL 4 (q.1 : Nat) ++ putL 1 (q.2 : Nat)) := by
    show _ = _
    rw [List.take_add_one, hq]; simp [pairP]
   have hTl : (B5 ++ (l.ps.take k).flatMap pairP).length <= 900100 := by
    have h1 : ∀ ps : List (Nat × Nat), (ps.flatMap pairP).length = ps.length * 5 := fun ps => by
     induction ps with
     | nil => rfl
     | cons p r ih => rw [List.flatMap_cons, List.length_append, ih, List.length_cons]; show 5 + _ = _; omega
    have h2 : (l.ps.take k).length <= 12 := by rw [List.length_take]; omega
    rw [List.length_append, h1]; omega
   obtain ⟨T, hT⟩ : ∃ T, B5 ++ (l.ps.take k).flatMap pairP = T := ⟨_, rfl⟩;rw [hT] at HR hTl Hnx;obtain ⟨zb, hzb⟩ : ∃ zb, zb = wr.heap.size := ⟨_, rfl⟩;obtain ⟨wz, hwz⟩ : ∃ wz : World, wz = wr.alloc (.cells #[.int .u32 (q.1 : Nat), .int .i64 (q.2 : Nat)] 111) := ⟨_, rfl⟩;have HZ : Hid (Blk wz zb #[.int .u32 (q.1 : Nat), .int .i64 (q.2 : Nat)] 111) := by rw [hwz, hzb]; exact Blk.new _ _ _
   have HBz : Hid (Below w.heap.size w wz) := by rw [hwz]; exact HB.out.alloc HB.out.size _
   have HRz : Hid (wz.ownsRow w.heap.size 5 1 v5 T.length (T.map byteV)) := by rw [hwz]; exact HR.out.alloc _
   have Hput : Hid (∀ w', Below wz.heap.size wz w' -> Calls Tryz.prog 58 #[v5, .int .i64 4, .int .u64 (q.1 : Nat)] w' fun e w'' => ∃ v', e = .returned v' /\ w''.ownsRow wz.heap.size 5 1 v' (T ++ putL 4 (q.1 : Nat)).length ((T ++ putL 4 (q.1 : Nat)).map byteV) /\ Below wz.heap.size wz w'' /\ Below w'.heap.size w' w'') := fun w' kb => by
    refine (put2_any w.heap.size T v5 4 (q.1 : Nat) w' (row_kept HRz.out (T := fun _ => False) (Kept.of_below kb) (fun _ _ h => h)) (by omega) (by omega) (by omega) (by omega)).mono ?_;rintro e w'' ⟨v', rfl, ho, hb⟩;exact ⟨v', rfl, row_base ho kb.size, bel_from kb hb, hb⟩
   have HSz : Hid (∀ w', Below wz.heap.size wz w' -> w'.cell? ⟨zb, 0, none⟩ = some (.int .u32 (q.1 : Nat)) /\ w'.cell? ⟨zb, 1, none⟩ = some (.int .i64 (q.2 : Nat))) := fun w' kb => by
    have h1 := Blk.below HZ.out kb HZ.out.lt;exact ⟨h1.cell 0, h1.cell 1⟩
   have Hd1 := Lib.hid (fun wq => data_one wq (q.2 : Nat) ⟨by omega, by omega⟩);have hw4 : IntKind.u64.wrap (q.1 : Int) = q.1 := IntWalk.u64_in _ (by omega);have hw1 : IntKind.u8.wrap (q.2 : Int) = q.2 := IntWalk.u8_in _ (by omega);have HBy : Hid (Below wz.heap.size wz (wz.alloc (.cells #[.int .u8 (q.2 : Nat)] 5)).drew) := ((Below.refl _ wz).alloc (Nat.le_refl _) _).drew;have HDy := Lib.hid (RowAt.below (Hd1.out wz) ((Below.refl _ _).drew) (Nat.le_refl _));have hl41 : (putL 4 ((q.1 : Nat) : Int)).length = 4 /\ (putL 1 ((q.2 : Nat) : Int)).length = 1 := ⟨rfl, rfl⟩;obtain ⟨P4, hP4⟩ : ∃ P4, putL 4 ((q.1 : Nat) : Int) = P4 := ⟨_, rfl⟩;obtain ⟨P1, hP1⟩ : ∃ P1, putL 1 ((q.2 : Nat) : Int) = P1 := ⟨_, rfl⟩;rw [hP4] at Hput Hnx hl41;rw [hP1] at Hnx Hd1 HDy hl41;obtain ⟨hl4, hl1⟩ := hl41;have hz0 := HSz.out _ ((Below.refl _ wz).drew);obtain ⟨hz0a, hz0b⟩ := hz0;clear hq hT hP4 hP1;go_upto_region 5 with fail
   rw [<- hwz, <- hzb];clear hwz hzb;first
   | go_region_held3 (fun w' => w'.cell? ⟨zb, 0, none⟩ = some (.int .u32 (q.1 : Nat)) /\ w'.cell? ⟨zb, 1, none⟩ = some (.int .i64 (q.2 : Nat)))
     (first | exact HSz.out _ ((Below.refl _ wz).drew) | exact HSz.out _ hba | exact HSz.out _ HBy.out | exact HSz.out _ hbb | exact HSz.out _ (Below.alloc hba hba.size _) | exact HSz.out _ hb5)
     ((first
      | (refine (Hput.out _ ((Below.refl _ wz).drew)).mono ?_; rintro e wa ⟨v1, rfl, howna, hba, -⟩)
      | (refine (Hput.out _ HBy.out).mono ?_; rintro e wb ⟨v1, rfl, hownb, hbb, hby⟩)
      | (refine step_row_bytes (by rfl) (.tmp 30) (.tmp 34) (by rfl) wz.heap.size (T ++ P4) P1 _ _ rfl (howna.alloc _) (by rfl) (Hd1.out wa) (by rw [List.length_append]; omega) (by rw [World.size_alloc]; have := hba.size; omega) ?_; intro v6 w6 hown6 hgrow6; have hb5 : Below wz.heap.size wz w6 := (hba.alloc hba.size _).grown hgrow6 (by rw [World.size_alloc]; have := hba.size; omega) (fun b e => (howna.lt b e).1))
      | (refine step_row_bytes (by rfl) (.tmp 30) (.tmp 34) (by rfl) wz.heap.size (T ++ P4) P1 _ _ rfl hownb (by rfl) (RowAt.below HDy.out hby (Nat.le_refl _)) (by rw [List.length_append]; omega) hbb.size ?_; intro v6 w6 hown6 hgrow6; have hb5 : Below wz.heap.size wz w6 := hbb.grown hgrow6 hbb.size (fun b e => (hownb.lt b e).1))
      | fail))
   | fail
   all_goals
    have HRn := Lib.hid (row_base hown6 HBz.out.size);have HBn := Lib.hid (bel_from HBz.out hb5);go_wp2_with fail
    go_roundg (l.ps.length - (k + 1))
    case measure => omega
    case rel => exact ⟨k + 1, _, by omega, by go_num, rfl, by rw [Hnx.out]; exact HRn, HBn⟩
  ·obtain rfl : k = l.ps.length := by omega
   rw [List.take_length] at HR;go_wp2_with fail
   go_ret;exact ⟨_, rfl, by rw [HB5e.out]; exact HR.out, HB.out⟩
theorem row_far {w w' : World} {base e size n : Nat} {v : Value} {xs : List Value} (h : w.ownsRow base e size v n xs) {T : Nat -> Prop} {ty : TypeId} (k : Kept T w w') (hT : ∀ b, T b -> ∃ cs fz, w.heap[b]? = some (.cells cs ty fz)) (hne : ty ≠ e) : w'.ownsRow base e size v n xs :=
 row_kept h k (fun b hb ht => by
  obtain ⟨cur, e1, -⟩ := row_type h hb;obtain ⟨cs, fz, e2⟩ := hT b ht;rw [e1] at e2;simp only [Option.some.injEq, Obj.cells.injEq] at e2;exact hne e2.2.1.symm)
theorem blk_far {w w' : World} {b ty : Nat} {cs : Array Value} (h : Blk w b cs ty) {T : Nat -> Prop} {ty2 : TypeId} (k : Kept T w w') (hT : ∀ b, T b -> ∃ cs fz, w.heap[b]? = some (.cells cs ty2 fz)) (hne : ty2 ≠ ty) : Blk w' b cs ty :=
 h.below' k (fun ht => by
  obtain ⟨cs', fz, e2⟩ := hT b ht;unfold Blk at h;rw [h] at e2;simp only [Option.some.injEq, Obj.cells.injEq] at e2;exact hne e2.2.1.symm)
theorem rowat_far {w w' : World} {ty n : Nat} {v : Value} {cells : List Value} (h : RowAt w ty v n cells) {T : Nat -> Prop} {ty2 : TypeId} (k : Kept T w w') (hT : ∀ b, T b -> ∃ cs fz, w.heap[b]? = some (.cells cs ty2 fz)) (hne : ty2 ≠ ty) : RowAt w' ty v n cells :=
 RowAt.kept h k (fun b cs fz ht hh => by
  obtain ⟨cs', fz', e2⟩ := hT b ht;rw [hh] at e2;simp only [Option.some.injEq, Obj.cells.injEq] at e2;exact hne e2.2.1.symm)
theorem blk_T {w : World} {b ty : Nat} {cs : Array Value} (h : Blk w b cs ty) : ∀ b', b' = b -> ∃ cs fz, w.heap[b']? = some (.cells cs ty fz) := fun b' e => by
 subst e;exact ⟨cs, _, h⟩
theorem row_T {w : World} {base e size n : Nat} {v : Value} {xs : List Value} (h : w.ownsRow base e size v n xs) : ∀ b', v.ownBlock = some b' -> ∃ cs fz, w.heap[b']? = some (.cells cs e fz) := fun b' hb => by
 obtain ⟨cur, e1, -⟩ := row_type h hb;exact ⟨_, _, e1⟩
def GRow (w : World) (v : Value) (n : Nat) (cells : List Value) : Prop :=
 ∃ a c, v = .slice a n c /\ n <= c /\ c <= maxLen /\ (n = 0 \/ ∃ b o, a = some ⟨b, o, none⟩ /\ b < w.heap.size /\ ∀ (j : Nat) (u : Value), cells[j]? = some u -> w.cell? ⟨b, o + j, none⟩ = some u)
theorem GRow.below {w w' : World} {v : Value} {n : Nat} {cells : List Value} (h : GRow w v n cells) {B : Nat} (hb : Below B w w') (hB : w.heap.size <= B) : GRow w' v n cells := by
 obtain ⟨a, c, rfl, h1, h2, h3⟩ := h;refine ⟨a, c, rfl, h1, h2, h3.imp id ?_⟩;rintro ⟨b, o, rfl, hlt, hc⟩;exact ⟨b, o, rfl, Nat.lt_of_lt_of_le hlt hb.size, fun j u hu => by rw [hb.cell (p := ⟨b, o + j, none⟩) (Nat.lt_of_lt_of_le hlt hB)]; exact hc j u hu⟩
theorem GRow.form {w : World} {v : Value} {n : Nat} {cells : List Value} (h : GRow w v n cells) : ∃ a c, v = .slice a n c /\ n <= c /\ c <= maxLen := by
 obtain ⟨a, c, e, h1, h2, _⟩ := h;exact ⟨a, c, e, h1, h2⟩
theorem GRow.cells {w : World} {n : Nat} {a : Option Addr} {c : Nat} {cells : List Value} (h : GRow w (.slice a n c) n cells) (hn : 0 < n) : ∃ b o, a = some ⟨b, o, none⟩ /\ b < w.heap.size /\ ∀ (j : Nat) (u : Value), cells[j]? = some u -> w.cell? ⟨b, o + j, none⟩ = some u := by
 obtain ⟨a', c', e, _, _, h3⟩ := h
 cases e;exact h3.resolve_left (by omega)
theorem mod5 (n : Int) (_ : I64 n) : IntKind.i64.wrap (n.tmod 5 + 5) = n.tmod 5 + 5 /\ (n.tmod 5 + 5).tmod 5 = n % 5 := by
 have h1 : -5 < n.tmod 5 /\ n.tmod 5 < 5 := by
  constructor
  ·rcases Int.le_total 0 n with h | h
   ·have := Int.tmod_nonneg 5 h; omega
   ·have h2 := Int.tmod_lt_of_pos (-n) (show (0 : Int) < 5 by omega)
    rw [Int.neg_tmod] at h2; omega
  ·exact Int.tmod_lt_of_pos n (by omega)
 refine ⟨IntWalk.i64_in _ (by omega), ?_⟩;rw [Int.tmod_eq_emod_of_nonneg (by omega)];rcases Int.le_total 0 n with h | h
 ·rw [Int.tmod_eq_emod_of_nonneg h]; omega
 ·have h2 : n.tmod 5 = -((-n) % 5) := by
   have := Int.neg_tmod (-n) 5;rw [Int.neg_neg] at this;rw [this, Int.tmod_eq_emod_of_nonneg (by omega)]
  rw [h2]; omega
structure SeedSt (d : Int) (ls : List Int) (k : Nat) (ps : List (Nat × Nat)) : Prop where
 eq : seedPs d 0 ls = ps ++ seedPs d k (ls.drop k)
 ln : ps.length <= k /\ ps.length <= 12
theorem SeedSt.skip {d : Int} {ls : List Int} {k : Nat} {ps : List (Nat × Nat)} (h : SeedSt d ls k ps) {n : Int} (hn : ls[k]? = some n) (hc : ¬ (k < 12 /\ n % 5 ≠ d)) : SeedSt d ls (k + 1) ps := by
 refine ⟨?_, ⟨by have := h.ln.1; omega, h.ln.2⟩⟩;rw [h.eq, drop_at hn];conv => lhs; unfold seedPs
 rw [if_neg hc, List.nil_append]
theorem SeedSt.add {d : Int} {ls : List Int} {k : Nat} {ps : List (Nat × Nat)} (h : SeedSt d ls k ps) {n : Int} (hn : ls[k]? = some n) (hc : k < 12 /\ n % 5 ≠ d) : SeedSt d ls (k + 1) (ps ++ [(3 * k + 1, (n % 5).toNat)]) := by
 refine ⟨?_, ?_⟩
 ·rw [h.eq, drop_at hn]
  conv => lhs; unfold seedPs
  rw [if_pos hc];simp
 ·have := h.ln.1
  rw [List.length_append, List.length_singleton];omega
theorem lseed_any (s : LSeed) (sv : Value) (w : World) (hv : GRow w sv s.ls.length (s.ls.map (Value.int .i64))) (hls : ∀ n ∈ s.ls, I64 n) :
  Calls Tryz.prog 24 #[.agg #[.int .i64 s.d, sv]] w fun e w' => ∃ a c, e = .returned (.agg #[.int .i64 (s.lab.d : Nat), .slice a s.lab.ps.length c]) /\ PairsIn w' (.slice a s.lab.ps.length c) s.lab.ps /\ Below w.heap.size w w' := by
 obtain ⟨la, lc, rfl, hc1, hc2⟩ := hv.form;unfold maxLen at hc2;have hlm : s.ls.length <= 9223372036854775807 := by omega
 obtain ⟨d, hd⟩ : ∃ d : Nat, s.d % 4 + 1 = (d : Int) := ⟨(s.d % 4 + 1).toNat, by omega⟩;have hd4 : 1 <= d /\ d <= 4 := by omega
 have hdl : s.lab = ⟨d, seedPs (d : Int) 0 s.ls⟩ := by unfold LSeed.lab; rw [hd]; rfl
 have HDl := Lib.hid hdl;have h3 : bits .and .i64 s.d 3 = s.d % 4 := and3 s.d;have hw1 : IntKind.i64.wrap (s.d % 4 + 1) = (d : Int) := by rw [hd]; exact IntWalk.i64_in _ (by omega)
 obtain ⟨xb, hxb⟩ : ∃ xb, xb = w.heap.size := ⟨_, rfl⟩;obtain ⟨w1, hw1'⟩ : ∃ w1 : World, w1 = ((w.alloc (.cells #[.int .i64 s.d, .slice la s.ls.length lc] 36)).alloc (.cells #[.int .i64 0, .slice none 0 0] 43)).alloc (.cells #[.int .i64 (d : Nat), .slice none 0 0] 43) := ⟨_, rfl⟩;have HXs : Hid (Blk w1 xb #[.int .i64 s.d, .slice la s.ls.length lc] 36) := by rw [hw1', hxb]; exact ((Blk.new _ _ _).alloc _).alloc _
 have HXr : Hid (Blk w1 (xb + 1) #[.int .i64 0, .slice none 0 0] 43) := by
  rw [hw1', hxb];have := Blk.new (w.alloc (.cells #[.int .i64 s.d, .slice la s.ls.length lc] 36)) #[.int .i64 0, .slice none 0 0] 43;rw [World.size_alloc] at this;exact this.alloc _
 have HXl : Hid (Blk w1 (xb + 1 + 1) #[.int .i64 (d : Nat), .slice none 0 0] 43) := by
  rw [hw1', hxb];have := Blk.new ((w.alloc (.cells #[.int .i64 s.d, .slice la s.ls.length lc] 36)).alloc (.cells #[.int .i64 0, .slice none 0 0] 43)) #[.int .i64 (d : Nat), .slice none 0 0] 43;rw [World.size_alloc, World.size_alloc] at this;exact this
 have HB1 : Hid (Below w.heap.size w w1) := by rw [hw1']; exact (((Below.refl _ w).alloc (Nat.le_refl _) _).alloc (by rw [World.size_alloc]; omega) _).alloc (by rw [World.size_alloc, World.size_alloc]; omega) _
 have HG := Lib.hid (fun w' (k : Below w.heap.size w w') => hv.below k (Nat.le_refl _));have Hls := Lib.hid hls;obtain ⟨i0, hi0, hz0, hz1, hz2⟩ := info_parts info_pair';have Hi0 := Lib.hid hi0; have Hz0 := Lib.hid hz0; have Hz1 := Lib.hid hz1; have Hz2 := Lib.hid hz2;clear hv hls hi0 hz0 hz1 hz2 hdl hd;go_enter Tryz.func24, Tryz.ntmps24
 go_upto_region 2 with fail
 rw [<- hw1', <- hxb];have Hxb := Lib.hid hxb;have hcs := HXs.out.cell;clear hw1' hxb;go_wp2_with fail
 go_loopg [4, 5, 14] s.ls.length (fun g _ _ vi wx => ∃ (k : Nat) (ps : List (Nat × Nat)) (A : Value), k + g = s.ls.length /\ vi = .int .i64 k /\ Hid (SeedSt (d : Int) s.ls k ps) /\ Hid (Blk wx (xb + 1 + 1) #[.int .i64 (d : Nat), A] 43) /\ Hid (wx.ownsRow w.heap.size 111 2 A ps.length (ps.flatMap pairV)) /\ Hid (Blk wx (xb + 1) #[.int .i64 0, .slice none 0 0] 43) /\ Hid (Below w.heap.size w wx))
 case atStart => exact ⟨0, [], .slice none 0 0, by omega, rfl, Lib.hid ⟨rfl, by simp⟩, HXl, Lib.hid (World.ownsRow_nil _ _ _ _), HXr, HB1⟩
 case round =>
  obtain ⟨k, ps, A, hk, rfl, HS, HL, HA, HR, HB⟩ := hrel;obtain ⟨pa, pc, rfl, -, -⟩ := RowAt.form (RowAt.own HA.out);clear hcs;by_cases hlt : k < s.ls.length
  ·have hlt' : (k : Int) < s.ls.length := by omega
   obtain ⟨n, hn⟩ : ∃ n, s.ls[k]? = some n := ⟨_, List.getElem?_eq_getElem hlt⟩;obtain ⟨b, o, rfl, -, hc⟩ := (HG.out wr HB.out).cells (by omega);have hcn : wr.cell? ⟨b, o + k, none⟩ = some (.int .i64 n) := hc k _ (by rw [List.getElem?_map, hn]; rfl);have hni := Hls.out n (List.mem_of_getElem? hn);obtain ⟨m1, m2⟩ := mod5 n hni;have hl0 := HL.out.cell;have hlf := HL.out.free;have HSk := Lib.hid (fun hc => HS.out.skip hn hc);have HSa := Lib.hid (fun hc => HS.out.add hn hc);have hln := HS.out.ln;obtain ⟨y, hy⟩ : ∃ y : Nat, n % 5 = (y : Int) := ⟨(n % 5).toNat, by omega⟩;rw [hy] at m2 HSk HSa;clear hc hn hy;by_cases c12 : k < 12
   ·have c12' : (k : Int) < 12 := by omega
    by_cases cd : y = d
    ·have cdb : ((y : Int) != (d : Int)) = false := by simp [cd]
     have HSn := Lib.hid (HSk.out (fun h => h.2 (by rw [cd])));clear cd;go_wp2_with fail
     go_roundg (s.ls.length - (k + 1))
     case measure => omega
     case rel => exact ⟨k + 1, ps, _, by omega, by go_num, HSn, HL, HA, HR, HB⟩
    ·have cdb : ((y : Int) != (d : Int)) = true := by simp; omega
     have HSn := Lib.hid (HSa.out ⟨c12, fun h => cd (by omega)⟩);rw [Int.toNat_natCast] at HSn;have e1 : IntKind.i64.wrap (3 * (k : Int)) = 3 * k := IntWalk.i64_in _ (by omega);have e2 : IntKind.i64.wrap (3 * (k : Int) + 1) = 3 * k + 1 := IntWalk.i64_in _ (by omega);have e3 : IntKind.u32.wrap (3 * (k : Int) + 1) = ((3 * k + 1 : Nat) : Int) := by rw [IntWalk.u32_in _ (by omega)]; omega
     clear cd;go_wp2_with (at_builtin; (refine wpList_append_lies _ rfl _ _ 41 rfl w.heap.size 111 i0 _ 2 16 Tryz.underlying41 Hi0.out Hz0.out Hz1.out Hz2.out rfl (by decide) _ ps.length (ps.flatMap pairV) rfl (HA.out.alloc _) ⟨wr.heap.size, 0, none⟩ 1 1 (pairV (3 * k + 1, y)) rfl rfl (World.news_of_block (Blk.new wr #[.int .u32 ((3 * k + 1 : Nat) : Int), .int .i64 (y : Nat)] 111)) (fun u hu => by simp [pairV] at hu; rcases hu with rfl | rfl <;> rfl) (by omega) (by unfold maxLen; omega) (by omega) (by rw [World.size_alloc]; have := HB.out.size; omega) _ rfl ?_; intro g6 cap w6 hown6 hgrow6 _ _; have hL6 := blk_far (HL.out.alloc _) (kept_grown hgrow6) (row_T (HA.out.alloc _)) (by decide); have hc6 : w6.cell? ⟨xb + 1 + 1, 1, none⟩ = some (.slice pa ps.length pc) := (hL6.cell 1).trans rfl; have hf6 : w6.frozen? ⟨xb + 1 + 1, 1, none⟩ = false := hL6.free 1))
     have kc : Kept (· = xb + 1 + 1) w6 (w6.setCell ⟨xb + 1 + 1, 1, none⟩ (.slice (some ⟨g6, 0, none⟩) (ps.length + 1) cap)) := (Kept.refl (· = xb + 1 + 1) w6).setIn (xb + 1 + 1) 1 _ rfl;have HLn : Hid (Blk (w6.setCell ⟨xb + 1 + 1, 1, none⟩ (.slice (some ⟨g6, 0, none⟩) (ps.length + 1) cap)) (xb + 1 + 1) #[.int .i64 (d : Nat), .slice (some ⟨g6, 0, none⟩) (ps.length + 1) cap] 43) := (hL6.set 1 _).cells rfl
     have HAn : Hid ((w6.setCell ⟨xb + 1 + 1, 1, none⟩ (.slice (some ⟨g6, 0, none⟩) (ps.length + 1) cap)).ownsRow w.heap.size 111 2 (.slice (some ⟨g6, 0, none⟩) (ps.length + 1) cap) (ps ++ [(3 * k + 1, y)]).length ((ps ++ [(3 * k + 1, y)]).flatMap pairV)) := by
      have h1 := row_far hown6 kc (blk_T hL6) (by decide);rw [List.length_append, List.flatMap_append];exact h1
     have HRn := Lib.hid ((blk_far (HR.out.alloc _) (kept_grown hgrow6) (row_T (HA.out.alloc _)) (by decide)).below' kc (by omega));have HBn : Hid (Below w.heap.size w (w6.setCell ⟨xb + 1 + 1, 1, none⟩ (.slice (some ⟨g6, 0, none⟩) (ps.length + 1) cap))) := ((HB.out.alloc HB.out.size _).grown hgrow6 (by rw [World.size_alloc]; have := HB.out.size; omega) (fun b e => (HA.out.lt b e).1)).setCell (p := ⟨xb + 1 + 1, 1, none⟩) (by have := Hxb.out; show _ <= xb + 1 + 1; omega) _;clear hL6 hc6 hf6 hown6 hgrow6 kc;go_roundg (s.ls.length - (k + 1))
     case measure => omega
     case rel => exact ⟨k + 1, _, _, by omega, by go_num, HSn, HLn, HAn, HRn, HBn⟩
   ·have c12' : ¬ (k : Int) < 12 := by omega
    have HSn := Lib.hid (HSk.out (fun h => c12 h.1));go_wp2_with fail
    go_roundg (s.ls.length - (k + 1))
    case measure => omega
    case rel => exact ⟨k + 1, ps, _, by omega, by go_num, HSn, HL, HA, HR, HB⟩
  ·obtain rfl : k = s.ls.length := by omega
   have hE := HS.out.eq;rw [List.drop_length] at hE;have hE2 : seedPs (d : Int) 0 s.ls = ps := by rw [hE]; exact List.append_nil _
   have HE : Hid (s.lab = ⟨d, ps⟩) := by show _ = _; rw [HDl.out, hE2]
   have hl0 := HL.out.cell;have hr0 := HR.out.cell;have hrf := HR.out.free;have HF : Hid (Blk ((wr.setCell ⟨xb + 1, 0, none⟩ (.int .i64 (d : Nat))).setCell ⟨xb + 1, 1, none⟩ (.slice pa ps.length pc)) (xb + 1) #[.int .i64 (d : Nat), .slice pa ps.length pc] 43) := ((HR.out.set 0 _).set 1 _).cells rfl;have kc : Kept (· = xb + 1) wr ((wr.setCell ⟨xb + 1, 0, none⟩ (.int .i64 (d : Nat))).setCell ⟨xb + 1, 1, none⟩ (.slice pa ps.length pc)) := ((Kept.refl (· = xb + 1) wr).setIn (xb + 1) 0 _ rfl).setIn (xb + 1) 1 _ rfl;have HPf : Hid (PairsIn ((wr.setCell ⟨xb + 1, 0, none⟩ (.int .i64 (d : Nat))).setCell ⟨xb + 1, 1, none⟩ (.slice pa ps.length pc)) (.slice pa ps.length pc) ps) := rowat_far (RowAt.own HA.out) kc (blk_T HR.out) (by decide);have HBf : Hid (Below w.heap.size w ((wr.setCell ⟨xb + 1, 0, none⟩ (.int .i64 (d : Nat))).setCell ⟨xb + 1, 1, none⟩ (.slice pa ps.length pc))) := (HB.out.setCell (p := ⟨xb + 1, 0, none⟩) (by have := Hxb.out; show _ <= xb + 1; omega) _).setCell (p := ⟨xb + 1, 1, none⟩) (by have := Hxb.out; show _ <= xb + 1; omega) _;clear hE hE2 kc;go_wp2_with fail
   first
   | refine bodyPost_ret (results_cell_row rfl _ _ (xb + 1) _ _ (0, 0) _ rfl HF.out Tryz.underlying43 rfl (by kernel_rfl)) rfl ?_
   | refine bodyPost_end (results_cell_row rfl _ _ (xb + 1) _ _ (0, 0) _ rfl HF.out Tryz.underlying43 rfl (by kernel_rfl)) rfl ?_
   rw [HE.out];exact ⟨_, _, rfl, HPf.out, HBf.out⟩
end Go.Proofs.YtiadbhiadhgjkaaGreatDoor
namespace Go.Proofs.YtiadbhiadhgjkaaGreatDoor
open Go.RowKit
def labOne : Lab := ⟨2, []⟩
def labThree : Lab := ⟨4, []⟩
def labUp : Lab := ⟨2, [(1, 4)]⟩
def labOwn : Lab := ⟨2, [(1, 0)]⟩
def pad16 (l : List UInt8) : List UInt8 := l ++ List.replicate (16 - l.length) 0
def labelsB : List UInt8 := [[labOne], [labUp], [labOwn], [labThree], [labOne, labThree], [labUp, labThree], [labOwn, labThree]].flatMap (fun r => pad16 (r.flatMap labP)) ++ List.replicate 16 0
structure ProgK where
 (lines : List Line)
 (lab : Lab)
 (home : Int)
def codeU (ls : List Line) : List UInt8 := (codeB ls).map fun x => UInt8.ofNat x.toNat
def worldO (n : Int) (p : ProgK) : List WObj :=
 [{ obj0 3 with lab := p.lab, clr := labThree, parent := p.home % 2, space := n + 2 },
  { obj0 4 with lab := labOne, maps := [⟨0, n + 3, 0, 9, false⟩, ⟨32, 2, 0, 2, true⟩, ⟨34, 3, 0, 1, true⟩] },
  { obj0 2 with lab := labOne, pages := 9, data := (codeU p.lines).take 576 }]
def worldP : Int -> List ProgK -> List WObj
 | _, [] => []
 | n, p :: r => worldO n p ++ worldP (n + 3) r
def worldK (l : List ProgK) (cores : Int) : WCfg :=
 ⟨cores % 2 + 1, 600, 200, [(0, 2), (1, 1), (0, 1)],
  [{ obj0 1 with lab := labOne, pages := 120, names := 40 }, { obj0 2 with lab := labOne, pages := 2, data := labelsB }, { obj0 2 with lab := labUp, pages := 1, data := [1, 2, 3] }, { obj0 6 with lab := labUp }] ++ worldP 4 (l.take 4)⟩
def haltP : ProgK := ⟨[], labOne, 0⟩
example : (worldK [haltP] 1).right = true := by decide +kernel
example : (newK (worldK [haltP] 1)).isSome = true := by decide +kernel
def noMic : Km -> Ob -> Option (Km × Int) := fun _ _ => none
def noWt : Km -> Ob -> Nat -> Option (Km × Int) := fun _ _ _ => none
def fitE : Option (Int × Int × Int) := (newK (worldK [haltP] 1)).bind fun K => (K.pickT noMic noWt 0).map fun r => (r.2.core, r.2.thread, r.2.what)
example : fitE = some (0, 6, 1) := by decide +kernel
end Go.Proofs.YtiadbhiadhgjkaaGreatDoor
namespace Go.Proofs.YtiadbhiadhgjkaaGreatDoor
open Go.RowKit
attribute [local irreducible] World.setCell World.alloc World.drew World.setRow Calls Code.wp
structure Labs (w : World) (n b1 : Nat) (s4 s5 : Value) (W : World) : Prop where
 one : Blk W b1 #[.int .i64 2, .slice none 0 0] 43
 three : Blk W (b1 + 1) #[.int .i64 4, .slice none 0 0] 43
 p4 : PairsIn W s4 [(1, 4)]
 p5 : PairsIn W s5 [(1, 0)]
 bel : Below n w W
 le : n <= b1
theorem Labs.alloc {w W : World} {n b1 : Nat} {s4 s5 : Value} (h : Labs w n b1 s4 s5 W) (o : Obj) : Labs w n b1 s4 s5 (W.alloc o) := by
 have hb : Below W.heap.size W (W.alloc o) := (Below.refl _ W).alloc (Nat.le_refl _) o;have h1 := h.one.lt;have h2 := h.le;exact ⟨h.one.alloc o, h.three.alloc o, RowAt.below h.p4 hb (Nat.le_refl _), RowAt.below h.p5 hb (Nat.le_refl _), h.bel.alloc (by omega) o, h.le⟩
theorem Labs.store {w W : World} {n b1 : Nat} {s4 s5 : Value} (h : Labs w n b1 s4 s5 W) {t : Nat} {cs : Array Value} (ht : Blk W t cs 43) (hn : b1 + 1 < t) (u v : Value) :
  Labs w n b1 s4 s5 ((W.setCell ⟨t, 0, none⟩ u).setCell ⟨t, 1, none⟩ v) := by
 have n0 : t ≠ b1 := by omega
 have n1 : t ≠ b1 + 1 := by omega
 have hk : Kept (· = t) W ((W.setCell ⟨t, 0, none⟩ u).setCell ⟨t, 1, none⟩ v) := ((Kept.refl (· = t) W).setIn t 0 u rfl).setIn t 1 v rfl
 have hs : ∀ b cs' fz, b = t -> W.heap[b]? = some (.cells cs' 111 fz) -> False := fun b cs' fz e hh => by
  rw [e] at hh;have := hh.symm.trans ht;simp at this
 have h2 := h.le
 exact ⟨(h.one.set_other (a := ⟨t, 0, none⟩) n0 _).set_other (a := ⟨t, 1, none⟩) n0 _, (h.three.set_other (a := ⟨t, 0, none⟩) n1 _).set_other (a := ⟨t, 1, none⟩) n1 _, RowAt.kept h.p4 hk hs, RowAt.kept h.p5 hk hs,
  (h.bel.setCell (p := ⟨t, 0, none⟩) (by show n <= t; omega) _).setCell (p := ⟨t, 1, none⟩) (by show n <= t; omega) _, h.le⟩
theorem blk_stored {W : World} {t : Nat} (ht : Blk W t #[.int .i64 0, .slice none 0 0] 43) (u v : Value) : Blk ((W.setCell ⟨t, 0, none⟩ u).setCell ⟨t, 1, none⟩ v) t #[u, v] 43 :=
 ((ht.set 0 u).set 1 v).cells (by simp only [List.setIfInBounds_toArray, List.set_cons_zero, List.set_cons_succ])
theorem blk_beside {W : World} {t t' : Nat} {cs : Array Value} {ty : Nat} (h : Blk W t' cs ty) (hn : t ≠ t') (u v : Value) : Blk ((W.setCell ⟨t, 0, none⟩ u).setCell ⟨t, 1, none⟩ v) t' cs ty :=
 (h.set_other (a := ⟨t, 0, none⟩) hn _).set_other (a := ⟨t, 1, none⟩) hn _
structure Four (w : World) (n b1 b3 b4 : Nat) (s4 s5 : Value) (W : World) : Prop where
 labs : Labs w n b1 s4 s5 W
 up : Blk W b3 #[.int .i64 2, s4] 43
 own : Blk W b4 #[.int .i64 2, s5] 43
section
variable {w W : World} {n b1 : Nat} {s4 s5 : Value}
theorem four_11 (h : Labs w n b1 s4 s5 W) : Four w n b1 W.heap.size (W.heap.size + 1) s4 s5 ((W.alloc (.cells #[.int .i64 2, s4] 43)).alloc (.cells #[.int .i64 2, s5] 43)) := by
 refine ⟨(h.alloc _).alloc _, (Blk.new W _ _).alloc _, ?_⟩;have := Blk.new (W.alloc (.cells #[.int .i64 2, s4] 43)) #[.int .i64 2, s5] 43;rw [World.size_alloc] at this; exact this
theorem four_12 (h : Labs w n b1 s4 s5 W) : Four w n b1 (W.heap.size + 1) W.heap.size s4 s5 ((W.alloc (.cells #[.int .i64 2, s5] 43)).alloc (.cells #[.int .i64 2, s4] 43)) := by
 refine ⟨(h.alloc _).alloc _, ?_, (Blk.new W _ _).alloc _⟩;have := Blk.new (W.alloc (.cells #[.int .i64 2, s5] 43)) #[.int .i64 2, s4] 43;rw [World.size_alloc] at this; exact this
theorem four_21 (h : Labs w n b1 s4 s5 W) {t : Nat} (ht : Blk W t #[.int .i64 0, .slice none 0 0] 43) (hn : b1 + 1 < t) :
  Four w n b1 t W.heap.size s4 s5 (((W.setCell ⟨t, 0, none⟩ (.int .i64 2)).setCell ⟨t, 1, none⟩ s4).alloc (.cells #[.int .i64 2, s5] 43)) := by
 refine ⟨(h.store ht hn _ _).alloc _, (blk_stored ht _ _).alloc _, ?_⟩;have := Blk.new ((W.setCell ⟨t, 0, none⟩ (.int .i64 2)).setCell ⟨t, 1, none⟩ s4) #[.int .i64 2, s5] 43;simpa using this
theorem four_22 (h : Labs w n b1 s4 s5 W) {t : Nat} (ht : Blk W t #[.int .i64 0, .slice none 0 0] 43) (hn : b1 + 1 < t) :
  Four w n b1 W.heap.size t s4 s5 (((W.setCell ⟨t, 0, none⟩ (.int .i64 2)).setCell ⟨t, 1, none⟩ s5).alloc (.cells #[.int .i64 2, s4] 43)) := by
 refine ⟨(h.store ht hn _ _).alloc _, ?_, (blk_stored ht _ _).alloc _⟩;have := Blk.new ((W.setCell ⟨t, 0, none⟩ (.int .i64 2)).setCell ⟨t, 1, none⟩ s5) #[.int .i64 2, s4] 43;simpa using this
theorem four_3 (h : Labs w n b1 s4 s5 W) {t t' : Nat} (ht : Blk W t #[.int .i64 0, .slice none 0 0] 43) (ht' : Blk W t' #[.int .i64 0, .slice none 0 0] 43) (hn : b1 + 1 < t) (hn' : b1 + 1 < t') (hne : t ≠ t') :
  Four w n b1 t t' s4 s5 ((((W.setCell ⟨t, 0, none⟩ (.int .i64 2)).setCell ⟨t, 1, none⟩ s4).setCell ⟨t', 0, none⟩ (.int .i64 2)).setCell ⟨t', 1, none⟩ s5) :=
 ⟨(h.store ht hn _ _).store (blk_beside ht' hne _ _) hn' _ _, blk_beside (blk_stored ht _ _) (Ne.symm hne) _ _, blk_stored (blk_beside ht' hne _ _) _ _⟩
end
end Go.Proofs.YtiadbhiadhgjkaaGreatDoor
namespace Go.Proofs.YtiadbhiadhgjkaaGreatDoor
open Go.RowKit
attribute [local irreducible] World.setCell World.alloc World.drew World.setRow Calls Code.wp
def rowsL : List (List Lab) := [[labOne], [labUp], [labOwn], [labThree], [labOne, labThree], [labUp, labThree], [labOwn, labThree]]
def putAt (bs : List UInt8) (q : Nat) (ds : List UInt8) : List UInt8 := bs.take q ++ ds ++ bs.drop (q + ds.length)
def rowB (k j : Nat) : List UInt8 := ((rowsL.getD k []).take j).flatMap labP
def contK (k : Nat) : List UInt8 := (List.range k).foldl (fun bs i => putAt bs (16 * i) (rowB i 2)) (List.replicate 128 0)
def contKJ (k j : Nat) : List UInt8 := putAt (contK k) (16 * k) (rowB k j)
def placeKJ (k j : Nat) : Nat := 16 * k + (rowB k j).length
theorem cont_step : ∀ k, k < 7 -> ∀ j, j < (rowsL.getD k []).length -> contKJ k (j + 1) = putAt (contKJ k j) (placeKJ k j) (labP ((rowsL.getD k []).getD j labOne)) /\ placeKJ k (j + 1) = placeKJ k j + (labP ((rowsL.getD k []).getD j labOne)).length /\ placeKJ k (j + 1) <= 128 /\ placeKJ k j < 128 /\ 0 < (labP ((rowsL.getD k []).getD j labOne)).length /\ (contKJ k j).length = 128 /\ ((rowsL.getD k []).getD j labOne).right = true := by decide +kernel
theorem cont_ends : ∀ k, k < 7 -> contKJ k 0 = contK k /\ placeKJ k 0 = 16 * k /\ contKJ k (rowsL.getD k []).length = contK (k + 1) := by decide +kernel
theorem cont_all : contK 7 = labelsB /\ contK 0 = List.replicate 128 0 := by decide +kernel
theorem run_make128 (w : World) : (Instr.makeSlice 63 (.int .i64 128) (.int .i64 128)).run Tryz.prog w =
  .ok (.slice (some ⟨w.heap.size, 0, none⟩) 128 128) (w.alloc (.cells ((List.replicate 128 (0 : UInt8)).map byteV).toArray 5)) := by
 obtain ⟨i, hi, hz, hs, hb⟩ : ∃ i, Tryz.prog.info? 5 = some i /\ i.zero = some (.int .u8 0) /\ i.size = 1 /\ i.bytes = 1 :=
  info_parts (by kernel_rfl)
 have := run_make (P := Tryz.prog) w 63 5 i _ Tryz.underlying63 hi hz .i64 .i64 128 128 (by omega) (by omega) (by rw [hb]; omega) (by omega)
 rw [this, hs, show (128 : Int).toNat = 128 from rfl, made_row _ (.int .u8 0) _ (by simp [Value.cells]) (fun i hi => by
  simp [Value.cells] at hi ⊢; subst hi; rfl), Nat.mul_one]
 rfl
theorem step_copy_data {w : World} {ops : Array Oper} {o : Oper} {a : Act} {K : Act -> World -> Prop} {Q : Exit -> Act -> World -> Prop} {Z : Prop} (hgd : o.guard = none) (d s : Operand)
  (ho : o.op = .call { callee := .builtin .copy, args := #[d, s], argTypes := #[63, 63] }) (g q dLen dCap : Nat) (bs ds : List UInt8) (xv : Value)
  (hB : Blk w g (bs.map byteV).toArray 5) (hd : a.eval d = .slice (some ⟨g, q, none⟩) dLen dCap) (hs : a.eval s = xv) (hx : DataIn w xv ds) (h0 : 0 < ds.length) (hl : ds.length <= dLen) (hfit : q + ds.length <= bs.length)
  (hk : ∀ w', Kept (· = g) w w' -> Blk w' g ((putAt bs q ds).map byteV).toArray 5 -> K (a.put o.dst (.int .i64 (ds.length : Nat))) w') :
  if Region.wanted o (yielded ops a.tmps) = true then Oper.wp Tryz.prog o a w K Q else Z := by
 have hw : Region.wanted o (yielded ops a.tmps) = true := by simp [Region.wanted, hgd]
 rw [if_pos hw];obtain ⟨A, c, rfl, hc1, hc2⟩ := RowAt.form hx;obtain ⟨b, rfl, -, hcl⟩ := RowAt.cells hx h0;have hrun := run_copy_row (P := Tryz.prog) w 63 63 o.type 5 g q dLen dCap ⟨b, 0, none⟩ ds.length c _ _ (ds.map byteV) Tryz.underlying63 (by kernel_rfl) hB (by rw [List.length_map]; exact (Nat.min_eq_left hl).symm) (fun j v hj => by rw [Addr.add_lit, Nat.zero_add]; exact hcl j v hj) (by simpa using hfit) (bytes_one ds);unfold Oper.wp;simp [execOp, ho, resolve, invoke, builtin, hd, hs, hrun, Result.andThen];refine hk _ (Kept.setRow (S := (· = g)) (Kept.refl _ w) (.inr rfl) _) ?_;refine Blk.cells (hB.setRow _) ?_;unfold putAt;simp
structure RowsIn (w : World) (bb rb : Nat) : Prop where
 lt : bb < rb /\ rb < w.heap.size
 at_ : ∀ k r, rowsL[k]? = some r -> ∃ b, bb < b /\ w.cell? ⟨rb, k, none⟩ = some (.slice (some ⟨b, 0, none⟩) r.length r.length) /\ b < w.heap.size /\
  ∀ j l, r[j]? = some l -> ∃ s, w.cell? ⟨b, j * 2, none⟩ = some (.int .i64 (l.d : Nat)) /\ w.cell? ⟨b, j * 2 + 1, none⟩ = some s /\ PairsIn w s l.ps
theorem RowsIn.kept {w w' : World} {bb rb : Nat} {cs : Array Value} (h : RowsIn w bb rb) (hB : Blk w bb cs 5) (k : Kept (· = bb) w w') : RowsIn w' bb rb := by
 refine ⟨⟨h.lt.1, Nat.lt_of_lt_of_le h.lt.2 k.size⟩, fun i r hr => ?_⟩;obtain ⟨b, h1, h2, h3, h4⟩ := h.at_ i r hr;have hc : ∀ c, bb < c -> c < w.heap.size -> ∀ j, w'.cell? ⟨c, j, none⟩ = w.cell? ⟨c, j, none⟩ := fun c e1 e2 j => World.cell?_of_block (a := ⟨c, j, none⟩) (k.block c e2 (fun e => by have e' : c = bb := e; omega))
 refine ⟨b, h1, (hc rb h.lt.1 h.lt.2 i).trans h2, Nat.lt_of_lt_of_le h3 k.size, fun j l hl => ?_⟩;obtain ⟨s, a1, a2, a3⟩ := h4 j l hl
 exact ⟨s, (hc b h1 h3 _).trans a1, (hc b h1 h3 _).trans a2, RowAt.kept a3 k (fun c cs' fz e hh => by
  have e' : c = bb := e;rw [e'] at hh;have := hh.symm.trans hB;simp at this)⟩
theorem RowsIn.below {w w' : World} {bb rb : Nat} (h : RowsIn w bb rb) (k : Below w.heap.size w w') : RowsIn w' bb rb := by
 refine ⟨⟨h.lt.1, Nat.lt_of_lt_of_le h.lt.2 k.size⟩, fun i r hr => ?_⟩;obtain ⟨b, h1, h2, h3, h4⟩ := h.at_ i r hr;have hc : ∀ c, c < w.heap.size -> ∀ j, w'.cell? ⟨c, j, none⟩ = w.cell? ⟨c, j, none⟩ := fun c e2 j => k.cell (p := ⟨c, j, none⟩) e2
 refine ⟨b, h1, (hc rb h.lt.2 i).trans h2, Nat.lt_of_lt_of_le h3 k.size, fun j l hl => ?_⟩;obtain ⟨s, a1, a2, a3⟩ := h4 j l hl;exact ⟨s, (hc b h3 _).trans a1, (hc b h3 _).trans a2, RowAt.below a3 k (Nat.le_refl _)⟩
def rowsW (wx : World) (z : Array Value) (s4 s5 : Value) : World :=
 ((((((((wx.alloc (.cells z 5)).alloc (.cells #[.int .i64 2, .slice none 0 0] 43)).alloc (.cells #[.int .i64 2, s4] 43)).alloc (.cells #[.int .i64 2, s5] 43)).alloc (.cells #[.int .i64 4, .slice none 0 0] 43)).alloc
  (.cells #[.int .i64 2, .slice none 0 0, .int .i64 4, .slice none 0 0] 43)).alloc (.cells #[.int .i64 2, s4, .int .i64 4, .slice none 0 0] 43)).alloc (.cells #[.int .i64 2, s5, .int .i64 4, .slice none 0 0] 43)).alloc
  (.cells #[.slice (some ⟨wx.heap.size + 1, 0, none⟩) 1 1, .slice (some ⟨wx.heap.size + 1 + 1, 0, none⟩) 1 1, .slice (some ⟨wx.heap.size + 1 + 1 + 1, 0, none⟩) 1 1, .slice (some ⟨wx.heap.size + 1 + 1 + 1 + 1, 0, none⟩) 1 1, .slice (some ⟨wx.heap.size + 1 + 1 + 1 + 1 + 1, 0, none⟩) 2 2, .slice (some ⟨wx.heap.size + 1 + 1 + 1 + 1 + 1 + 1, 0, none⟩) 2 2, .slice (some ⟨wx.heap.size + 1 + 1 + 1 + 1 + 1 + 1 + 1, 0, none⟩) 2 2] 140)
theorem rows_start (wx : World) (z : Array Value) (s4 s5 : Value) (h4 : PairsIn wx s4 [(1, 4)]) (h5 : PairsIn wx s5 [(1, 0)]) :
  Blk (rowsW wx z s4 s5) wx.heap.size z 5 /\ RowsIn (rowsW wx z s4 s5) wx.heap.size (wx.heap.size + 1 + 1 + 1 + 1 + 1 + 1 + 1 + 1) /\ Below wx.heap.size wx (rowsW wx z s4 s5) := by
 have hz : Blk (rowsW wx z s4 s5) wx.heap.size z 5 := ((((((((Blk.new wx z 5).alloc _).alloc _).alloc _).alloc _).alloc _).alloc _).alloc _).alloc _;have b1 := Blk.new (wx.alloc (.cells z 5)) #[.int .i64 2, .slice none 0 0] 43;rw [World.size_alloc] at b1;have b2 := Blk.new ((wx.alloc (.cells z 5)).alloc (.cells #[.int .i64 2, .slice none 0 0] 43)) #[.int .i64 2, s4] 43;rw [World.size_alloc, World.size_alloc] at b2;have b3 := Blk.new (((wx.alloc (.cells z 5)).alloc (.cells #[.int .i64 2, .slice none 0 0] 43)).alloc (.cells #[.int .i64 2, s4] 43)) #[.int .i64 2, s5] 43;rw [World.size_alloc, World.size_alloc, World.size_alloc] at b3;have b4 := Blk.new ((((wx.alloc (.cells z 5)).alloc (.cells #[.int .i64 2, .slice none 0 0] 43)).alloc (.cells #[.int .i64 2, s4] 43)).alloc (.cells #[.int .i64 2, s5] 43)) #[.int .i64 4, .slice none 0 0] 43;rw [World.size_alloc, World.size_alloc, World.size_alloc, World.size_alloc] at b4;have b5 := Blk.new (((((wx.alloc (.cells z 5)).alloc (.cells #[.int .i64 2, .slice none 0 0] 43)).alloc (.cells #[.int .i64 2, s4] 43)).alloc (.cells #[.int .i64 2, s5] 43)).alloc (.cells #[.int .i64 4, .slice none 0 0] 43)) #[.int .i64 2, .slice none 0 0, .int .i64 4, .slice none 0 0] 43
 rw [World.size_alloc, World.size_alloc, World.size_alloc, World.size_alloc, World.size_alloc] at b5;have b6 := Blk.new ((((((wx.alloc (.cells z 5)).alloc (.cells #[.int .i64 2, .slice none 0 0] 43)).alloc (.cells #[.int .i64 2, s4] 43)).alloc (.cells #[.int .i64 2, s5] 43)).alloc (.cells #[.int .i64 4, .slice none 0 0] 43)).alloc (.cells #[.int .i64 2, .slice none 0 0, .int .i64 4, .slice none 0 0] 43)) #[.int .i64 2, s4, .int .i64 4, .slice none 0 0] 43;rw [World.size_alloc, World.size_alloc, World.size_alloc, World.size_alloc, World.size_alloc, World.size_alloc] at b6;have b7 := Blk.new (((((((wx.alloc (.cells z 5)).alloc (.cells #[.int .i64 2, .slice none 0 0] 43)).alloc (.cells #[.int .i64 2, s4] 43)).alloc (.cells #[.int .i64 2, s5] 43)).alloc (.cells #[.int .i64 4, .slice none 0 0] 43)).alloc (.cells #[.int .i64 2, .slice none 0 0, .int .i64 4, .slice none 0 0] 43)).alloc (.cells #[.int .i64 2, s4, .int .i64 4, .slice none 0 0] 43)) #[.int .i64 2, s5, .int .i64 4, .slice none 0 0] 43;rw [World.size_alloc, World.size_alloc, World.size_alloc, World.size_alloc, World.size_alloc, World.size_alloc, World.size_alloc] at b7
 have hB : Below wx.heap.size wx (rowsW wx z s4 s5) := by
  unfold rowsW;have h (W : World) (o : Obj) (hh : Below wx.heap.size wx W) : Below wx.heap.size wx (W.alloc o) := hh.alloc hh.size o;exact h _ _ (h _ _ (h _ _ (h _ _ (h _ _ (h _ _ (h _ _ (h _ _ (h _ _ (Below.refl _ wx)))))))))
 have c1 : Blk (rowsW wx z s4 s5) _ _ _ := ((((((b1.alloc _).alloc _).alloc _).alloc _).alloc _).alloc _).alloc _;have c2 : Blk (rowsW wx z s4 s5) _ _ _ := (((((b2.alloc _).alloc _).alloc _).alloc _).alloc _).alloc _;have c3 : Blk (rowsW wx z s4 s5) _ _ _ := ((((b3.alloc _).alloc _).alloc _).alloc _).alloc _;have c4 : Blk (rowsW wx z s4 s5) _ _ _ := (((b4.alloc _).alloc _).alloc _).alloc _;have c5 : Blk (rowsW wx z s4 s5) _ _ _ := ((b5.alloc _).alloc _).alloc _;have c6 : Blk (rowsW wx z s4 s5) _ _ _ := (b6.alloc _).alloc _;have c7 : Blk (rowsW wx z s4 s5) _ _ _ := b7.alloc _
 have hs : (rowsW wx z s4 s5).heap.size = wx.heap.size + 9 := by
  unfold rowsW;simp only [World.size_alloc]
 have c8 : Blk (rowsW wx z s4 s5) (wx.heap.size + 1 + 1 + 1 + 1 + 1 + 1 + 1 + 1) #[.slice (some ⟨wx.heap.size + 1, 0, none⟩) 1 1, .slice (some ⟨wx.heap.size + 1 + 1, 0, none⟩) 1 1, .slice (some ⟨wx.heap.size + 1 + 1 + 1, 0, none⟩) 1 1, .slice (some ⟨wx.heap.size + 1 + 1 + 1 + 1, 0, none⟩) 1 1, .slice (some ⟨wx.heap.size + 1 + 1 + 1 + 1 + 1, 0, none⟩) 2 2, .slice (some ⟨wx.heap.size + 1 + 1 + 1 + 1 + 1 + 1, 0, none⟩) 2 2, .slice (some ⟨wx.heap.size + 1 + 1 + 1 + 1 + 1 + 1 + 1, 0, none⟩) 2 2] 140 := by
  have b8 := Blk.new ((((((((wx.alloc (.cells z 5)).alloc (.cells #[.int .i64 2, .slice none 0 0] 43)).alloc (.cells #[.int .i64 2, s4] 43)).alloc (.cells #[.int .i64 2, s5] 43)).alloc (.cells #[.int .i64 4, .slice none 0 0] 43)).alloc (.cells #[.int .i64 2, .slice none 0 0, .int .i64 4, .slice none 0 0] 43)).alloc (.cells #[.int .i64 2, s4, .int .i64 4, .slice none 0 0] 43)).alloc (.cells #[.int .i64 2, s5, .int .i64 4, .slice none 0 0] 43)) #[.slice (some ⟨wx.heap.size + 1, 0, none⟩) 1 1, .slice (some ⟨wx.heap.size + 1 + 1, 0, none⟩) 1 1, .slice (some ⟨wx.heap.size + 1 + 1 + 1, 0, none⟩) 1 1, .slice (some ⟨wx.heap.size + 1 + 1 + 1 + 1, 0, none⟩) 1 1, .slice (some ⟨wx.heap.size + 1 + 1 + 1 + 1 + 1, 0, none⟩) 2 2, .slice (some ⟨wx.heap.size + 1 + 1 + 1 + 1 + 1 + 1, 0, none⟩) 2 2, .slice (some ⟨wx.heap.size + 1 + 1 + 1 + 1 + 1 + 1 + 1, 0, none⟩) 2 2] 140;rw [World.size_alloc, World.size_alloc, World.size_alloc, World.size_alloc, World.size_alloc, World.size_alloc, World.size_alloc, World.size_alloc] at b8;exact b8
 have n0 : PairsIn (rowsW wx z s4 s5) (.slice none 0 0) [] := RowAt.nil _ _;have n4 : PairsIn (rowsW wx z s4 s5) s4 [(1, 4)] := RowAt.below h4 hB (Nat.le_refl _);have n5 : PairsIn (rowsW wx z s4 s5) s5 [(1, 0)] := RowAt.below h5 hB (Nat.le_refl _);refine ⟨hz, ⟨⟨by omega, by omega⟩, fun k r hr => ?_⟩, hB⟩;match k, hr with
 | 0, hr =>
  cases hr;refine ⟨wx.heap.size + 1, by omega, (c8.cell 0).trans rfl, by omega, fun j l hl => ?_⟩;match j, hl with
  | 0, hl => cases hl; exact ⟨_, (c1.cell 0).trans rfl, (c1.cell 1).trans rfl, n0⟩
 | 1, hr =>
  cases hr;refine ⟨wx.heap.size + 1 + 1, by omega, (c8.cell 1).trans rfl, by omega, fun j l hl => ?_⟩;match j, hl with
  | 0, hl => cases hl; exact ⟨_, (c2.cell 0).trans rfl, (c2.cell 1).trans rfl, n4⟩
 | 2, hr =>
  cases hr;refine ⟨wx.heap.size + 1 + 1 + 1, by omega, (c8.cell 2).trans rfl, by omega, fun j l hl => ?_⟩;match j, hl with
  | 0, hl => cases hl; exact ⟨_, (c3.cell 0).trans rfl, (c3.cell 1).trans rfl, n5⟩
 | 3, hr =>
  cases hr;refine ⟨wx.heap.size + 1 + 1 + 1 + 1, by omega, (c8.cell 3).trans rfl, by omega, fun j l hl => ?_⟩;match j, hl with
  | 0, hl => cases hl; exact ⟨_, (c4.cell 0).trans rfl, (c4.cell 1).trans rfl, n0⟩
 | 4, hr =>
  cases hr;refine ⟨wx.heap.size + 1 + 1 + 1 + 1 + 1, by omega, (c8.cell 4).trans rfl, by omega, fun j l hl => ?_⟩;match j, hl with
  | 0, hl => cases hl; exact ⟨_, (c5.cell 0).trans rfl, (c5.cell 1).trans rfl, n0⟩
  | 1, hl => cases hl; exact ⟨_, (c5.cell 2).trans rfl, (c5.cell 3).trans rfl, n0⟩
 | 5, hr =>
  cases hr;refine ⟨wx.heap.size + 1 + 1 + 1 + 1 + 1 + 1, by omega, (c8.cell 5).trans rfl, by omega, fun j l hl => ?_⟩;match j, hl with
  | 0, hl => cases hl; exact ⟨_, (c6.cell 0).trans rfl, (c6.cell 1).trans rfl, n4⟩
  | 1, hl => cases hl; exact ⟨_, (c6.cell 2).trans rfl, (c6.cell 3).trans rfl, n0⟩
 | 6, hr =>
  cases hr;refine ⟨wx.heap.size + 1 + 1 + 1 + 1 + 1 + 1 + 1, by omega, (c8.cell 6).trans rfl, by omega, fun j l hl => ?_⟩;match j, hl with
  | 0, hl => cases hl; exact ⟨_, (c7.cell 0).trans rfl, (c7.cell 1).trans rfl, n5⟩
  | 1, hl => cases hl; exact ⟨_, (c7.cell 2).trans rfl, (c7.cell 3).trans rfl, n0⟩
structure LbSt (w0 : World) (n0 bb rb k j : Nat) (W : World) : Prop where
 bytes : Blk W bb ((contKJ k j).map byteV).toArray 5
 rows : RowsIn W bb rb
 bel : Below n0 w0 W
 le : n0 <= bb
theorem LbSt.below {w0 W W' : World} {n0 bb rb k j : Nat} (h : LbSt w0 n0 bb rb k j W) (q : Below W.heap.size W W') : LbSt w0 n0 bb rb k j W' :=
 ⟨h.bytes.below q h.bytes.lt, h.rows.below q, h.bel.trans (q.mono (Nat.le_trans h.le (Nat.le_of_lt h.bytes.lt))), h.le⟩
theorem slice_from (g q : Nat) (hq : q < 128) (w : World) : (Instr.slice 63 (.slice (some ⟨g, 0, none⟩) 128 128) (some (.int .i64 q)) none none).run Tryz.prog w = .ok (.slice (some ⟨g, q, none⟩) (128 - q) (128 - q)) w := by
 have hq0 : (0 : Int) <= q := by omega
 have hqm2 : (q : Int) <= 128 := by omega
 have hne : ¬ 128 = q := by omega
 go_simp
 try rfl
end Go.Proofs.YtiadbhiadhgjkaaGreatDoor
