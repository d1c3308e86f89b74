/- Of the proof of this claim: a joined text. -/
import Derived.Test.YtmlcgebahdcmaaaGreatDoorZzCut
import Derived.Test.YtmlcgebahdcmaaaGreatDoorZzPkC
import Derived.Deep.RegionHeld3
set_option maxRecDepth 100000
set_option maxHeartbeats 8000000
namespace Go.Proofs.YtmlcgebahdcmaaaGreatDoor
open Go.RowKit
attribute [local irreducible] World.setCell World.alloc World.drew World.setRow Calls Code.wp row
theorem putL_cells (n : Nat) (x : Int) : (putL n x).map byteV = (List.range n).map fun j => Value.int .u8 (byN n x j) := by
 unfold putL
 rw [List.map_map]
 refine List.map_congr_left fun j _ => ?_
 have h := byN_bd n x j
 show Value.int .u8 ((UInt8.ofNat (byN n x j).toNat).toNat : Int) = _
 have e : ((UInt8.ofNat (byN n x j).toNat).toNat : Int) = byN n x j := by
  rw [UInt8.toNat_ofNat', Nat.mod_eq_of_lt (by omega)]; omega
 rw [e]
theorem bytes_one (l : List UInt8) : ∀ v ∈ l.map byteV, v.oneCell' = true := fun v hv => by obtain ⟨j, _, rfl⟩ := List.mem_map.1 hv; rfl
theorem owns_src {w : World} {g0 : Nat} {bs : List UInt8} {a : Addr} {m c : Nat} (h : w.ownsRow g0 5 1 (.slice (some a) m c) m (bs.map byteV)) : ∀ (j : Nat) (u : Value), (bs.map byteV)[j]? = some u -> w.cell? (a.add j) = some u := by
 intro j u hu
 obtain ⟨b, e, _, hc⟩ := RowAt.cells (RowAt.own h) (by have := h.1; have := (List.getElem?_eq_some_iff.1 hu).1; omega)
 cases e
 rw [Addr.add_lit]
 have := hc j u hu
 rwa [Nat.zero_add]
theorem put2_any (g0 : Nat) (bs : List UInt8) (v : Value) (n : Nat) (x : Int) (w : World) (h : w.ownsRow g0 5 1 v bs.length (bs.map byteV)) (hl : bs.length <= 1000000) (h8 : n <= 8) (h0 : 0 <= x) (h1 : x <= 18446744073709551615) :
  Calls Tryz.prog 69 #[v, .int .i64 n, .int .u64 x] w fun e w' =>
   ∃ v', e = .returned v' /\ w'.ownsRow w.heap.size 5 1 v' (bs ++ putL n x).length ((bs ++ putL n x).map byteV) /\ Below w.heap.size w w' := by
 obtain ⟨i0, hi, hz0, hz1, hz2⟩ := info_parts info5
 have Hi := Lib.hid hi; have Hz0 := Lib.hid hz0; have Hz1 := Lib.hid hz1; have Hz2 := Lib.hid hz2
 clear hi hz0 hz1 hz2
 have H0 := Lib.hid h0; have H1 := Lib.hid h1; have Hw := Lib.hid h
 have HL := Lib.hid (show (bs ++ putL n x).length = bs.length + n by simp [putL])
 have HC := Lib.hid (show (bs ++ putL n x).map byteV = bs.map byteV ++ (List.range n).map fun j => Value.int .u8 (byN n x j) by rw [List.map_append, putL_cells])
 rw [HL.out, HC.out]
 clear h1
 have key : ∀ (w1 : World) (v1 : Value), w1.ownsRow w.heap.size 5 1 v1 bs.length (bs.map byteV) -> Below w.heap.size w w1 -> True := fun _ _ _ _ => trivial
 rcases h.2 with ⟨rfl, hn0⟩ | ⟨g, cap, cur, rfl, -, -, -, -, -, -⟩
 ·obtain rfl : bs = [] := List.length_eq_zero_iff.1 hn0
  refine (put_any n x w h8 H0.out H1.out).mono ?_
  rintro e w' ⟨v, rfl, hv, hb⟩
  exact ⟨v, rfl, by simpa using hv, hb⟩
 clear h key
 go_enter Tryz.func69, Tryz.ntmps69
 go_wp2_with (at_builtin; refine wpList_append_own _ rfl _ _ 44 rfl w.heap.size 5 i0 (.int .u8 0) 1 1 Tryz.underlying44 Hi.out Hz0.out Hz1.out Hz2.out rfl (by decide) _ 0 [] rfl (World.ownsRow_nil _ _ _ _) ⟨g, 0, none⟩ bs.length cap (bs.map byteV) rfl (by simp) (owns_src Hw.out) (bytes_one bs) (by unfold maxLen; omega) (by omega) (Nat.le_refl _) ?_; intro v1 w1 hown1 hgrow1 _; rw [Nat.zero_add, List.nil_append] at hown1)
 have hb1 : Below w.heap.size w w1 := Below.grown (Below.refl _ _) hgrow1 (Nat.le_refl _) (fun k hk => by cases hk)
 go_loopg [7, 8] n (fun g v i wx => ∃ k : Nat, k = g /\ k <= n /\ i = .int .i64 k /\ wx.ownsRow w.heap.size 5 1 v (bs.length + (n - k)) (bs.map byteV ++ (List.range (n - k)).map fun j => Value.int .u8 (byN n x j)) /\ Below w.heap.size w wx)
 case atStart => exact ⟨n, rfl, Nat.le_refl _, rfl, by rw [Nat.sub_self]; simpa using hown1, hb1⟩
 case round =>
  obtain ⟨k, rfl, hk, rfl, hown, hb⟩ := hrel
  have Hown := Lib.hid hown; have Hb := Lib.hid hb
  clear hown hb hown1 hb1 hgrow1
  by_cases hlt : 0 < k
  ·obtain ⟨q, rfl⟩ : ∃ q, k = q + 1 := ⟨k - 1, by omega⟩
   have e1 : ((q + 1 : Nat) : Int) = (q : Int) + 1 := by omega
   rw [e1]
   clear e1
   have hq8 : q < 8 := by omega
   have hby : x / 2 ^ (8 * q) % 256 = byN n x (n - (q + 1)) := by
    unfold byN
    rw [show n - 1 - (n - (q + 1)) = q by omega, Int.pow_mul]; rfl
   have Hby := Lib.hid hby; clear hby
   have hsz := Hb.out.size
   go_wp2_with (at_builtin; refine wpList_append_own _ rfl _ _ 44 rfl w.heap.size 5 i0 (.int .u8 0) 1 1 Tryz.underlying44 Hi.out Hz0.out Hz1.out Hz2.out rfl (by decide) _ _ _ rfl (Hown.out.alloc _) ⟨wr.heap.size, 0, none⟩ 1 1 [.int .u8 (x / 2 ^ (8 * q) % 256)] rfl rfl (cell_one_new' _ _ _) (fun u hu => by simp at hu; rw [hu]; rfl) (by unfold maxLen; omega) (by omega) (by rw [World.size_alloc]; omega) ?_; intro v6 w6 hown6 hgrow6 _)
   go_roundg q
   case measure => omega
   case rel =>
    refine ⟨q, rfl, by omega, by go_num, ?_, (Hb.out.alloc hsz _).grown hgrow6 (by simp; omega) (fun k hk => (Hown.out.lt k hk).1)⟩
    rw [Hby.out] at hown6
    have e1 : n - q = (n - (q + 1)) + 1 := by omega
    rw [e1, List.range_succ, List.map_append, <- Nat.add_assoc, <- List.append_assoc]
    exact hown6
  ·obtain rfl : k = 0 := by omega
   go_wp2_with fail
   go_ret
   exact ⟨_, rfl, Hown.out, Hb.out⟩
end Go.Proofs.YtmlcgebahdcmaaaGreatDoor
namespace Go.Proofs.YtmlcgebahdcmaaaGreatDoor
open Go.RowKit
attribute [local irreducible] World.setCell World.alloc World.drew World.setRow Calls Code.wp
attribute [local go_sem] Oper.semAt_some
theorem step_row_bytes {w : World} {ops : Array Oper} {o : Oper} {a : Act} {K : Act -> World -> Prop} {Q : Exit -> Act -> World -> Prop} {Z : Prop} (hgd : o.guard = none) (s x : Operand)
  (ho : o.op = .call { callee := .builtin .append, args := #[s, x], argTypes := #[44, 44] }) (base : Nat) (bs ds : List UInt8) (v xv : Value) (hs : a.eval s = v) (hown : w.ownsRow base 5 1 v bs.length (bs.map byteV))
  (hx : a.eval x = xv) (hd : DataIn w xv ds) (hl : bs.length + ds.length <= 1000000) (hb : base <= w.heap.size)
  (hk : ∀ v' w', w'.ownsRow base 5 1 v' (bs ++ ds).length ((bs ++ ds).map byteV) -> w.grownBy w' v.ownBlock -> K (a.put o.dst v') w') :
  if Region.wanted o (yielded ops a.tmps) = true then Oper.wp Tryz.prog o a w K Q else Z := by
 have hw : Region.wanted o (yielded ops a.tmps) = true := by simp [Region.wanted, hgd]
 rw [if_pos hw]
 obtain ⟨i, hi, hz, hsz, hby⟩ : ∃ i, Tryz.prog.info? 5 = some i /\ i.zero = some (.int .u8 0) /\ i.size = 1 /\ i.bytes = 1 := info_parts (by kernel_rfl)
 have hrun : ∃ v' w', (Builtin.append_ #[44, 44] o.type #[v, xv]).run Tryz.prog w = .ok v' w' /\ w'.ownsRow base 5 1 v' (bs ++ ds).length ((bs ++ ds).map byteV) /\ w.grownBy w' v.ownBlock := by
  obtain ⟨A, c, rfl, hc1, hc2⟩ := RowAt.form hd
  rw [List.length_append, List.map_append]
  cases A with
  | none =>
   have h0 : ds = [] := by
    cases ds with
    | nil => rfl
    | cons x r => obtain ⟨b, e, -⟩ := RowAt.cells hd (by simp); cases e
   subst h0
   simp only [List.length_nil, Nat.add_zero, List.map_nil, List.append_nil]
   refine ⟨v, w, ?_, hown, World.grownBy.refl w _⟩
   rcases hown.2 with ⟨rfl, hn⟩ | ⟨g, cap, cur, rfl, -, -, h3, -⟩
   ·simp [Builtin.append_, run_underlying Tryz.underlying44, sizeOf, typeInfo, hi, Builtin.lenOf, Builtin.firstCells]
   ·simp [Builtin.append_, run_underlying Tryz.underlying44, sizeOf, typeInfo, hi, Builtin.lenOf, Builtin.firstCells, h3, storeCells]
  | some ad =>
   have hcl : ∀ j u, (ds.map byteV)[j]? = some u -> w.cell? (ad.add j) = some u := fun j u hu => by
    obtain ⟨b, e, -, hcl⟩ := RowAt.cells hd (by have := (List.getElem?_eq_some_iff.1 hu).1; rw [List.length_map] at this; omega)
    cases e
    rw [Addr.add_lit, Nat.zero_add]
    exact hcl j u hu
   obtain ⟨v', w', h1, h2, h3, _⟩ := run_append_own (P := Tryz.prog) w base 44 o.type 5 i (.int .u8 0) 1 1 Tryz.underlying44 hi hz hsz hby rfl (by omega) v bs.length (bs.map byteV) hown ad ds.length c (ds.map byteV) (by simp) hcl (bytes_one ds) (by unfold maxLen; omega) (by omega) hb
   exact ⟨v', w', h1, h2, h3⟩
 obtain ⟨v', w', hr, h2, h3⟩ := hrun
 unfold Oper.wp execOp
 simp only [ho, resolve, invoke, builtin, Sem.run_bind, Sem.run_pure, Result.andThen_ok, List.map_toArray, List.map_cons, List.map_nil, hs, hx, hr]
 exact hk v' w' h2 h3
theorem data_new (w : World) (ds : List UInt8) (hl : ds.length <= 1000000) : DataIn (w.alloc (.cells (ds.map byteV).toArray 5)) (.slice (some ⟨w.heap.size, 0, none⟩) ds.length ds.length) ds :=
 ⟨_, _, rfl, Nat.le_refl _, by unfold maxLen; omega, .inr ⟨_, _, (0, 0), rfl, Blk.new _ _ _, fun j u hu => by simpa using hu⟩⟩
theorem putL_one (x : Int) (h0 : 0 <= x) (h1 : x < 256) : putL 1 x = [UInt8.ofNat x.toNat] := by
 have : byN 1 x 0 = x := by unfold byN; simp; omega
 simp [putL, this]
theorem byteV_of (x : Int) (h0 : 0 <= x) (h1 : x < 256) : byteV (UInt8.ofNat x.toNat) = .int .u8 x := by
 unfold byteV
 rw [show ((UInt8.ofNat x.toNat).toNat : Int) = x by simp; omega]
theorem data_two (wq : World) (x y : Int) (hx : 0 <= x /\ x < 256) (hy : 0 <= y /\ y < 256) : DataIn (wq.alloc (.cells #[.int .u8 x, .int .u8 y] 5)) (.slice (some ⟨wq.heap.size, 0, none⟩) 2 2) (putL 1 x ++ putL 1 y) := by
 have h := data_new wq [UInt8.ofNat x.toNat, UInt8.ofNat y.toNat] (by simp)
 have e : ([UInt8.ofNat x.toNat, UInt8.ofNat y.toNat].map byteV).toArray = #[Value.int .u8 x, .int .u8 y] := by
  simp only [List.map_cons, List.map_nil, byteV_of x hx.1 hx.2, byteV_of y hy.1 hy.2]
 rw [e] at h
 rw [putL_one x hx.1 hx.2, putL_one y hy.1 hy.2]
 exact h
theorem data_one (wq : World) (x : Int) (hx : 0 <= x /\ x < 256) : DataIn (wq.alloc (.cells #[.int .u8 x] 5)) (.slice (some ⟨wq.heap.size, 0, none⟩) 1 1) (putL 1 x) := by
 have h := data_new wq [UInt8.ofNat x.toNat] (by simp)
 have e : ([UInt8.ofNat x.toNat].map byteV).toArray = #[Value.int .u8 x] := by
  simp only [List.map_cons, List.map_nil, byteV_of x hx.1 hx.2]
 rw [e] at h
 rw [putL_one x hx.1 hx.2]
 exact h
def pairP (p : Nat × Nat) : List UInt8 := putL 4 (p.1 : Nat) ++ putL 1 (p.2 : Nat)
theorem labP_eq (l : Lab) : labP l = putL 1 (l.d : Nat) ++ putL 1 (l.ps.length : Nat) ++ l.ps.flatMap pairP := by
 unfold labP; rw [List.append_assoc]; rfl
theorem putlab_any (g0 : Nat) (bs : List UInt8) (v lv : Value) (l : Lab) (w : World) (h : w.ownsRow g0 5 1 v bs.length (bs.map byteV)) (hl : bs.length <= 900000) (hL : LabIn w lv l) (hr : l.right = true) :
  Calls Tryz.prog 43 #[v, lv] w fun e w' => ∃ v', e = .returned v' /\ w'.ownsRow w.heap.size 5 1 v' (bs ++ labP l).length ((bs ++ labP l).map byteV) /\ Below w.heap.size w w' := by
 obtain ⟨s, rfl, hP⟩ := hL
 obtain ⟨la, lc, rfl, hc1, hc2⟩ := RowAt.form hP
 obtain ⟨⟨d1, d4⟩, hn, hp⟩ := Lab.right_spec hr
 have hD : DataIn w v bs := RowAt.own h
 obtain ⟨va, vc, rfl, -, -⟩ := RowAt.form hD
 obtain ⟨w1, hw1⟩ : ∃ w1 : World, w1 = w.alloc (.cells #[.int .i64 (l.d : Nat), .slice la l.ps.length lc] 72) := ⟨_, rfl⟩
 obtain ⟨xb, hxb⟩ : ∃ xb, xb = w.heap.size := ⟨_, rfl⟩
 have HX : Hid (Blk w1 xb #[.int .i64 (l.d : Nat), .slice la l.ps.length lc] 72) := by rw [hw1, hxb]; exact Blk.new _ _ _
 have HB1 : Hid (Below w.heap.size w w1) := by rw [hw1]; exact (Below.refl _ w).alloc (Nat.le_refl _) _
 have HD := Lib.hid (fun w' (k : Below w.heap.size w w') => (RowAt.below hD k (Nat.le_refl _) : DataIn w' _ bs))
 have HP := Lib.hid (fun w' (k : Below w.heap.size w w') => (RowAt.below hP k (Nat.le_refl _) : PairsIn w' _ l.ps))
 have Hp := Lib.hid hp
 have hwd : IntKind.u8.wrap (l.d : Int) = l.d := IntWalk.u8_in _ (by omega)
 have hwn : IntKind.u8.wrap (l.ps.length : Int) = l.ps.length := IntWalk.u8_in _ (by omega)
 have Hdat := Lib.hid (fun wq => data_two wq (l.d : Nat) (l.ps.length : Nat) ⟨by omega, by omega⟩ ⟨by omega, by omega⟩)
 have hlen2 : (putL 1 ((l.d : Nat) : Int) ++ putL 1 ((l.ps.length : Nat) : Int)).length = 2 := rfl
 obtain ⟨D2, hD2⟩ : ∃ D2, putL 1 ((l.d : Nat) : Int) ++ putL 1 ((l.ps.length : Nat) : Int) = D2 := ⟨_, rfl⟩
 have HLP : Hid (bs ++ labP l = bs ++ D2 ++ l.ps.flatMap pairP) := by show _ = _; rw [labP_eq, <- hD2]; simp
 rw [hD2] at Hdat hlen2
 have hcx := HX.out.cell
 have Hown := Lib.hid h
 have HSS : Hid (∀ w', Below w1.heap.size w1 w' -> w'.cell? ⟨xb, 0, none⟩ = some (.int .i64 (l.d : Nat)) /\ w'.cell? ⟨xb, 1, none⟩ = some (.slice la l.ps.length lc)) := fun w' k => by
  have h1 := Blk.below HX.out k HX.out.lt
  exact ⟨h1.cell 0, h1.cell 1⟩
 have HBd : Hid (Below w.heap.size w w1.drew) := HB1.out.drew
 have hsz1 := HB1.out.size
 rw [HLP.out]
 clear h hD hP hp hr hD2
 go_enter Tryz.func43, Tryz.ntmps43
 go_upto_region 1 with fail
 rw [<- hw1, <- hxb]
 have Hxb := Lib.hid hxb
 clear hw1 hxb
 go_cut [5] (fun v5 wx => Hid (wx.ownsRow w.heap.size 5 1 v5 (bs ++ D2).length ((bs ++ D2).map byteV)) /\ Hid (Below w.heap.size w wx) /\ Hid (Blk wx xb #[.int .i64 (l.d : Nat), .slice la l.ps.length lc] 72))
 case first =>
  have hx0 := HSS.out _ ((Below.refl _ w1).drew)
  obtain ⟨hx0a, hx0b⟩ := hx0
  have HBz : Hid (Below w1.heap.size w1 (w1.alloc (.cells #[.int .u8 (l.d : Nat), .int .u8 (l.ps.length : Nat)] 5)).drew) := ((Below.refl _ w1).alloc (Nat.le_refl _) _).drew
  have HDz := Lib.hid (RowAt.below (Hdat.out w1) ((Below.refl _ _).drew) (Nat.le_refl _))
  have hsd : w1.heap.size <= w1.drew.heap.size := by simp
  first
  | go_region_held3 (fun w' => w'.cell? ⟨xb, 0, none⟩ = some (.int .i64 (l.d : Nat)) /\ w'.cell? ⟨xb, 1, none⟩ = some (.slice la l.ps.length lc))
    (first | exact HSS.out _ ((Below.refl _ w1).drew) | exact HSS.out _ hba | exact HSS.out _ HBz.out | exact HSS.out _ hbb | exact HSS.out _ (Below.alloc hba hba.size _) | exact HSS.out _ hb5)
    ((first
     | (refine step_row_bytes (by rfl) (.const (.slice none 0 0)) (.tmp 8) (by rfl) w1.heap.size [] bs _ _ rfl (World.ownsRow_nil _ _ _ _) (by rfl) (HD.out _ HBd.out) (by simp; omega) hsd ?_; intro v1 wa howna hgrowa; have hba : Below w1.heap.size w1 wa := ((Below.refl _ w1).drew).grown hgrowa hsd (fun b e => by cases e); simp only [List.nil_append] at howna)
     | (refine step_row_bytes (by rfl) (.const (.slice none 0 0)) (.tmp 8) (by rfl) w1.heap.size [] bs _ _ rfl (World.ownsRow_nil _ _ _ _) (by rfl) (HD.out _ (bel_from HB1.out HBz.out)) (by simp; omega) HBz.out.size ?_; intro v1 wb hownb hgrowb; have hbb : Below w1.heap.size w1 wb := HBz.out.grown hgrowb HBz.out.size (fun b e => by cases e); simp only [List.nil_append] at hownb; have hdb := RowAt.below HDz.out ((Below.refl _ _).grown hgrowb (Nat.le_refl _) (fun b e => by cases e)) (Nat.le_refl _))
     | (refine step_row_bytes (by rfl) (.tmp 9) (.tmp 17) (by rfl) w1.heap.size bs D2 _ _ rfl (howna.alloc _) (by rfl) (Hdat.out wa) (by omega) (by rw [World.size_alloc]; have := hba.size; omega) ?_; intro v5 w5 hown5 hgrow5; have hb5 : Below w1.heap.size w1 w5 := (hba.alloc hba.size _).grown hgrow5 (by rw [World.size_alloc]; have := hba.size; omega) (fun b e => (howna.lt b e).1))
     | (refine step_row_bytes (by rfl) (.tmp 9) (.tmp 17) (by rfl) w1.heap.size bs D2 _ _ rfl hownb (by rfl) hdb (by omega) hbb.size ?_; intro v5 w5 hown5 hgrow5; have hb5 : Below w1.heap.size w1 w5 := hbb.grown hgrow5 hbb.size (fun b e => (hownb.lt b e).1))
     | fail))
  | fail
  all_goals
   go_wp2_with fail
   go_meet
   exact ⟨Lib.hid (row_base hown5 HB1.out.size), Lib.hid (bel_from HB1.out hb5), Lib.hid (Blk.below HX.out hb5 HX.out.lt)⟩
 case rest =>
 obtain ⟨Ho5, Hb5, Hx5⟩ := hcut
 have hcx := Hx5.out.cell
 have Hsz5 : Hid (w.heap.size <= wc.heap.size) := Hb5.out.size
 obtain ⟨B5, hB5⟩ : ∃ B5, bs ++ D2 = B5 := ⟨_, rfl⟩
 have hl5 : B5.length <= 900002 := by rw [<- hB5, List.length_append]; omega
 rw [hB5] at Ho5
 have HB5e := Lib.hid hB5
 clear HSS HX HB1 HBd Hdat hB5 HLP Hown
 go_wp2_with fail
 go_loopg [5, 7, 22] l.ps.length (fun g u5 _ vi wx => ∃ (k : Nat) (v5 : Value), k + g = l.ps.length /\ vi = .int .i64 k /\ v5 = u5 /\ Hid (wx.ownsRow w.heap.size 5 1 v5 (B5 ++ (l.ps.take k).flatMap pairP).length ((B5 ++ (l.ps.take k).flatMap pairP).map byteV)) /\ Hid (Below w.heap.size w wx))
 case atStart => exact ⟨0, _, by omega, rfl, rfl, by rw [List.take_zero, List.flatMap_nil, List.append_nil]; exact Ho5, Hb5⟩
 case round =>
  obtain ⟨k, v5, hk, rfl, rfl, HR, HB⟩ := hrel
  by_cases hlt : k < l.ps.length
  ·have hlt' : (k : Int) < l.ps.length := by omega
   obtain ⟨q, hq⟩ : ∃ q, l.ps[k]? = some q := ⟨_, List.getElem?_eq_getElem hlt⟩
   obtain ⟨b, rfl, -, q0, q1⟩ := PairsIn.at (HP.out wr HB.out) hq
   obtain ⟨g1, g2⟩ := Hp.out q (List.mem_of_getElem? hq)
   have Hnx : Hid (B5 ++ (l.ps.take (k + 1)).flatMap pairP = B5 ++ (l.ps.take k).flatMap pairP ++ putL 4 (q.1 : Nat) ++ putL 1 (q.2 : Nat)) := by
    show _ = _
    rw [List.take_add_one, hq]; simp [pairP]
   have hTl : (B5 ++ (l.ps.take k).flatMap pairP).length <= 900100 := by
    have h1 : ∀ ps : List (Nat × Nat), (ps.flatMap pairP).length = ps.length * 5 := fun ps => by
     induction ps with
     | nil => rfl
     | cons p r ih => rw [List.flatMap_cons, List.length_append, ih, List.length_cons]; show 5 + _ = _; omega
    have h2 : (l.ps.take k).length <= 12 := by rw [List.length_take]; omega
    rw [List.length_append, h1]; omega
   obtain ⟨T, hT⟩ : ∃ T, B5 ++ (l.ps.take k).flatMap pairP = T := ⟨_, rfl⟩
   rw [hT] at HR hTl Hnx
   obtain ⟨zb, hzb⟩ : ∃ zb, zb = wr.heap.size := ⟨_, rfl⟩
   obtain ⟨wz, hwz⟩ : ∃ wz : World, wz = wr.alloc (.cells #[.int .u32 (q.1 : Nat), .int .i64 (q.2 : Nat)] 149) := ⟨_, rfl⟩
   have HZ : Hid (Blk wz zb #[.int .u32 (q.1 : Nat), .int .i64 (q.2 : Nat)] 149) := by rw [hwz, hzb]; exact Blk.new _ _ _
   have HBz : Hid (Below w.heap.size w wz) := by rw [hwz]; exact HB.out.alloc HB.out.size _
   have HRz : Hid (wz.ownsRow w.heap.size 5 1 v5 T.length (T.map byteV)) := by rw [hwz]; exact HR.out.alloc _
   have Hput : Hid (∀ w', Below wz.heap.size wz w' -> Calls Tryz.prog 69 #[v5, .int .i64 4, .int .u64 (q.1 : Nat)] w' fun e w'' => ∃ v', e = .returned v' /\ w''.ownsRow wz.heap.size 5 1 v' (T ++ putL 4 (q.1 : Nat)).length ((T ++ putL 4 (q.1 : Nat)).map byteV) /\ Below wz.heap.size wz w'' /\ Below w'.heap.size w' w'') := fun w' kb => by
    refine (put2_any w.heap.size T v5 4 (q.1 : Nat) w' (row_kept HRz.out (T := fun _ => False) (Kept.of_below kb) (fun _ _ h => h)) (by omega) (by omega) (by omega) (by omega)).mono ?_
    rintro e w'' ⟨v', rfl, ho, hb⟩
    exact ⟨v', rfl, row_base ho kb.size, bel_from kb hb, hb⟩
   have HSz : Hid (∀ w', Below wz.heap.size wz w' -> w'.cell? ⟨zb, 0, none⟩ = some (.int .u32 (q.1 : Nat)) /\ w'.cell? ⟨zb, 1, none⟩ = some (.int .i64 (q.2 : Nat))) := fun w' kb => by
    have h1 := Blk.below HZ.out kb HZ.out.lt
    exact ⟨h1.cell 0, h1.cell 1⟩
   have Hd1 := Lib.hid (fun wq => data_one wq (q.2 : Nat) ⟨by omega, by omega⟩)
   have hw4 : IntKind.u64.wrap (q.1 : Int) = q.1 := IntWalk.u64_in _ (by omega)
   have hw1 : IntKind.u8.wrap (q.2 : Int) = q.2 := IntWalk.u8_in _ (by omega)
   have HBy : Hid (Below wz.heap.size wz (wz.alloc (.cells #[.int .u8 (q.2 : Nat)] 5)).drew) := ((Below.refl _ wz).alloc (Nat.le_refl _) _).drew
   have HDy := Lib.hid (RowAt.below (Hd1.out wz) ((Below.refl _ _).drew) (Nat.le_refl _))
   have hl41 : (putL 4 ((q.1 : Nat) : Int)).length = 4 /\ (putL 1 ((q.2 : Nat) : Int)).length = 1 := ⟨rfl, rfl⟩
   obtain ⟨P4, hP4⟩ : ∃ P4, putL 4 ((q.1 : Nat) : Int) = P4 := ⟨_, rfl⟩
   obtain ⟨P1, hP1⟩ : ∃ P1, putL 1 ((q.2 : Nat) : Int) = P1 := ⟨_, rfl⟩
   rw [hP4] at Hput Hnx hl41
   rw [hP1] at Hnx Hd1 HDy hl41
   obtain ⟨hl4, hl1⟩ := hl41
   have hz0 := HSz.out _ ((Below.refl _ wz).drew)
   obtain ⟨hz0a, hz0b⟩ := hz0
   clear hq hT hP4 hP1
   go_upto_region 5 with fail
   rw [<- hwz, <- hzb]
   clear hwz hzb
   first
   | go_region_held3 (fun w' => w'.cell? ⟨zb, 0, none⟩ = some (.int .u32 (q.1 : Nat)) /\ w'.cell? ⟨zb, 1, none⟩ = some (.int .i64 (q.2 : Nat)))
     (first | exact HSz.out _ ((Below.refl _ wz).drew) | exact HSz.out _ hba | exact HSz.out _ HBy.out | exact HSz.out _ hbb | exact HSz.out _ (Below.alloc hba hba.size _) | exact HSz.out _ hb5)
     ((first
      | (refine (Hput.out _ ((Below.refl _ wz).drew)).mono ?_; rintro e wa ⟨v1, rfl, howna, hba, -⟩)
      | (refine (Hput.out _ HBy.out).mono ?_; rintro e wb ⟨v1, rfl, hownb, hbb, hby⟩)
      | (refine step_row_bytes (by rfl) (.tmp 30) (.tmp 34) (by rfl) wz.heap.size (T ++ P4) P1 _ _ rfl (howna.alloc _) (by rfl) (Hd1.out wa) (by rw [List.length_append]; omega) (by rw [World.size_alloc]; have := hba.size; omega) ?_; intro v6 w6 hown6 hgrow6; have hb5 : Below wz.heap.size wz w6 := (hba.alloc hba.size _).grown hgrow6 (by rw [World.size_alloc]; have := hba.size; omega) (fun b e => (howna.lt b e).1))
      | (refine step_row_bytes (by rfl) (.tmp 30) (.tmp 34) (by rfl) wz.heap.size (T ++ P4) P1 _ _ rfl hownb (by rfl) (RowAt.below HDy.out hby (Nat.le_refl _)) (by rw [List.length_append]; omega) hbb.size ?_; intro v6 w6 hown6 hgrow6; have hb5 : Below wz.heap.size wz w6 := hbb.grown hgrow6 hbb.size (fun b e => (hownb.lt b e).1))
      | fail))
   | fail
   all_goals
    have HRn := Lib.hid (row_base hown6 HBz.out.size)
    have HBn := Lib.hid (bel_from HBz.out hb5)
    go_wp2_with fail
    go_roundg (l.ps.length - (k + 1))
    case measure => omega
    case rel => exact ⟨k + 1, _, by omega, by go_num, rfl, by rw [Hnx.out]; exact HRn, HBn⟩
  ·obtain rfl : k = l.ps.length := by omega
   rw [List.take_length] at HR
   go_wp2_with fail
   go_ret
   exact ⟨_, rfl, by rw [HB5e.out]; exact HR.out, HB.out⟩
end Go.Proofs.YtmlcgebahdcmaaaGreatDoor
