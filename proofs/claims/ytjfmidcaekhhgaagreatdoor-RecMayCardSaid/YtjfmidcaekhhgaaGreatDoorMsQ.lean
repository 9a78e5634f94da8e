/- Messages compared, as a walk. Printed by gen_msq.py. -/
import Derived.Test.YtjfmidcaekhhgaaGreatDoorMsO
namespace Go.Proofs.YtjfmidcaekhhgaaGreatDoor
open Go.RowKit Go.PM

theorem Tryz.u_heads : Tryz.prog.underlying 102 = some (.struct (Tryz.prog.fieldsOf 102)) := by kernel_rfl
theorem Tryz.st_heads : Tryz.prog.stoodInHeld 102 = false := by kernel_rfl
theorem eqGuard_heads : Tryz.prog.eqGuardType Tryz.prog.depth 102 = false := by kernel_rfl
/-- What head makes of a message. -/
def headv (m : PMsg) : List Value := .int .u8 m.kind :: .int .u8 m.mode :: .int .u8 m.why :: .int .u8 m.yes :: (txv m.tx ++ (regv m.reg ++ (bcells m.key ++ [.int .u32 m.time, .int .u32 m.no])))
theorem headv_length {m : PMsg} (h : m.Wf) : (headv m).length = 19 := by simp [headv, txv, regv, h.key]
theorem headv_one (m : PMsg) : ∀ u ∈ headv m, u.oneCell' = true := by
  intro u hu
  simp only [headv, txv, regv, List.mem_cons, List.mem_append, List.not_mem_nil, or_false] at hu
  rcases hu with rfl | rfl | rfl | rfl | (rfl | rfl | rfl) | (rfl | rfl) | h | rfl | rfl
  all_goals first | rfl | exact bcells_one _ u h
theorem build_head (m : PMsg) (h : m.Wf) (w : World) :
    (Instr.build 102 #[(0, .int .u8 m.kind), (1, .int .u8 m.mode), (2, .int .u8 m.why), (3, .int .u8 m.yes), (4, .agg (txv m.tx).toArray), (5, .agg (regv m.reg).toArray), (6, .agg (bcells m.key).toArray), (7, .int .u32 m.time), (8, .int .u32 m.no)]).run Tryz.prog w = .ok (.agg (headv m).toArray) w := by
  have hk := h.key
  obtain ⟨kind, tx, time, reg, key, mode, no, why, yes, item, writes⟩ := m
  simp only at hk
  obtain ⟨b0, b1, b2, b3, b4, b5, b6, b7, rfl⟩ := list8 key hk
  simp only [headv, txv, regv, bcells, List.map_cons, List.map_nil, List.cons_append, List.nil_append]
  go_simp
/-- Are the heads of two messages the same? -/
def sameH (a b : PMsg) : Bool :=
  (a.kind : Int) == b.kind && ((a.mode : Int) == b.mode && ((a.why : Int) == b.why && ((a.yes : Int) == b.yes && ((a.tx.1 : Int) == b.tx.1 && ((a.tx.2.1 : Int) == b.tx.2.1 && ((a.tx.2.2 : Int) == b.tx.2.2 && ((a.reg.1 : Int) == b.reg.1 && ((a.reg.2 : Int) == b.reg.2 && (a.key == b.key && ((a.time : Int) == b.time && (a.no : Int) == b.no))))))))))
theorem eqHeads (x y : PMsg) (hx : x.Wf) (hy : y.Wf) (w : World) (D : Nat) :
    (Op.equalIn (D + 3) 102 (.agg (headv x).toArray) (.agg (headv y).toArray)).run Tryz.prog w = .ok (sameH x y) w := by
  rw [run_equalIn_agg w (D + 2) _ _ _ Tryz.u_heads Tryz.st_heads]
  have hk := hx.key
  have hk' := hy.key
  clear hx hy
  obtain ⟨kind, ⟨t1, t2, t3⟩, time, ⟨r1, r2⟩, key, mode, no, why, yes, item, writes⟩ := x
  obtain ⟨kind', ⟨t1', t2', t3'⟩, time', ⟨r1', r2'⟩, key', mode', no', why', yes', item', writes'⟩ := y
  simp only at hk hk'
  simp only [Program.fieldsOf, Tryz.underlying102, sameH]
  have hb := fun w => eqKey key key' hk hk' w D
  obtain ⟨p0, p1, p2, p3, p4, p5, p6, p7, rfl⟩ := list8 key hk
  obtain ⟨q0, q1, q2, q3, q4, q5, q6, q7, rfl⟩ := list8 key' hk'
  simp only [bcells, List.map_cons, List.map_nil] at hb
  simp only [Op.eqFields, part, headv, txv, regv, bcells, List.map_cons, List.map_nil, List.cons_append, List.nil_append]
  go_simp
  generalize (p0 == q0 && (p1 == q1 && (p2 == q2 && (p3 == q3 && (p4 == q4 && (p5 == q5 && (p6 == q6 && p7 == q7))))))) = C
  by_cases h0 : (kind : Int) = kind'
  case neg => simp [h0]
  by_cases h1 : (mode : Int) = mode'
  case neg => simp [h0, h1]
  by_cases h2 : (why : Int) = why'
  case neg => simp [h0, h1, h2]
  by_cases h3 : (yes : Int) = yes'
  case neg => simp [h0, h1, h2, h3]
  by_cases h4 : (t1 : Int) = t1'
  case neg => simp [h0, h1, h2, h3, h4]
  by_cases h5 : (t2 : Int) = t2'
  case neg => simp [h0, h1, h2, h3, h4, h5]
  by_cases h6 : (t3 : Int) = t3'
  case neg => simp [h0, h1, h2, h3, h4, h5, h6]
  by_cases h7 : (r1 : Int) = r1'
  case neg => simp [h0, h1, h2, h3, h4, h5, h6, h7]
  by_cases h8 : (r2 : Int) = r2'
  case neg => simp [h0, h1, h2, h3, h4, h5, h6, h7, h8]
  cases C
  · simp [h0, h1, h2, h3, h4, h5, h6, h7, h8]
  by_cases h10 : (time : Int) = time'
  case neg => simp [h0, h1, h2, h3, h4, h5, h6, h7, h8, h10]
  by_cases h11 : (no : Int) = no'
  case neg => simp [h0, h1, h2, h3, h4, h5, h6, h7, h8, h10, h11]
  simp [h0, h1, h2, h3, h4, h5, h6, h7, h8, h10, h11]
theorem eqlHeads (x y : PMsg) (hx : x.Wf) (hy : y.Wf) (w : World) :
    (binOp .eql 102 (.agg (headv x).toArray) (.agg (headv y).toArray)).run Tryz.prog w = .ok (.bool (sameH x y)) w := by
  rw [run_eql_struct, eqHeads x y hx hy w 9997]; rfl

def noW' (m : PMsg) : PMsg := { m with writes := [] }
theorem noW'_wf {m : PMsg} (h : m.Wf) : (noW' m).Wf := ⟨h.kind, h.tx, h.time, h.reg, h.key, h.mode, h.no, h.why, h.yes, h.item, fun _x hx => nomatch hx⟩

section
variable {w : World}
set_option maxRecDepth 100000 in
set_option maxHeartbeats 1000000 in
theorem head_calls (m : PMsg) (a : Option Addr) (c : Nat) (hm : m.Wf) :
    Calls Tryz.prog 59 #[.agg (msgv m a c).toArray] w fun e w' => e = .returned (.agg (headv m).toArray) ∧ Kept No w w' := by
  have B0 := (Blk.new w 42 (msgv m a c)).alloc (.cells #[.int .u8 0, .int .u8 0, .int .u8 0, .int .u8 0, .int .u8 0, .int .u32 0, .int .u32 0, .int .u32 0, .int .u32 0, .int .u8 0, .int .u8 0, .int .u8 0, .int .u8 0, .int .u8 0, .int .u8 0, .int .u8 0, .int .u8 0, .int .u32 0, .int .u32 0] 102)
  have B1 := Blk.new' (w := w.alloc (.cells (msgv m a c).toArray 42)) (g := w.heap.size + 1) (by rw [World.size_alloc]) 102 [.int .u8 0, .int .u8 0, .int .u8 0, .int .u8 0, .int .u8 0, .int .u32 0, .int .u32 0, .int .u32 0, .int .u32 0, .int .u8 0, .int .u8 0, .int .u8 0, .int .u8 0, .int .u8 0, .int .u8 0, .int .u8 0, .int .u8 0, .int .u32 0, .int .u32 0]
  have KK := ((Kept.refl No w).alloc (.cells (msgv m a c).toArray 42)).alloc (.cells #[.int .u8 0, .int .u8 0, .int .u8 0, .int .u8 0, .int .u8 0, .int .u32 0, .int .u32 0, .int .u32 0, .int .u32 0, .int .u8 0, .int .u8 0, .int .u8 0, .int .u8 0, .int .u8 0, .int .u8 0, .int .u8 0, .int .u8 0, .int .u32 0, .int .u32 0] 102)
  have c0 := (B0.cell 0).trans (show (msgv m a c)[0]? = some (.int .u8 m.kind) from rfl)
  have c4 := (B0.cell 4).trans (show (msgv m a c)[4]? = some (.int .u32 m.time) from rfl)
  have c15 := (B0.cell 15).trans (cell15_of hm a c 0)
  have c16 := (B0.cell 16).trans (cell15_of hm a c 1)
  have c17 := (B0.cell 17).trans (cell15_of hm a c 2)
  have c18 := (B0.cell 18).trans (cell15_of hm a c 3)
  simp only [List.getElem?_cons_zero, List.getElem?_cons_succ] at c15 c16 c17 c18
  have d1 := (B0.cell 1).trans (show (msgv m a c)[1]? = some (.int .u8 m.tx.1) from rfl)
  have d2 := (B0.cell 2).trans (show (msgv m a c)[2]? = some (.int .u32 m.tx.2.1) from rfl)
  have d3 := (B0.cell 3).trans (show (msgv m a c)[3]? = some (.int .u32 m.tx.2.2) from rfl)
  have d5 := (B0.cell 5).trans (show (msgv m a c)[5]? = some (.int .u32 m.reg.1) from rfl)
  have d6 := (B0.cell 6).trans (show (msgv m a c)[6]? = some (.int .u32 m.reg.2) from rfl)
  have hkk : ∀ j, j < 8 → (msgv m a c)[7 + j]? = some (.int .u8 (vsOf m.key j)) := fun j hj => by
    rw [show 7 + j = j + 1 + 1 + 1 + 1 + 1 + 1 + 1 by omega]
    simp only [msgv, txv, regv, List.cons_append, List.nil_append, List.getElem?_cons_succ]
    rw [List.getElem?_append_left (by rw [bcells_length, hm.key]; exact hj)]
    exact upcell m.key (by rw [hm.key]; exact hj)
  have e0 := (B0.cell 7).trans (hkk 0 (by decide))
  have e1 := (B0.cell 8).trans (hkk 1 (by decide))
  have e2 := (B0.cell 9).trans (hkk 2 (by decide))
  have e3 := (B0.cell 10).trans (hkk 3 (by decide))
  have e4 := (B0.cell 11).trans (hkk 4 (by decide))
  have e5 := (B0.cell 12).trans (hkk 5 (by decide))
  have e6 := (B0.cell 13).trans (hkk 6 (by decide))
  have e7 := (B0.cell 14).trans (hkk 7 (by decide))
  have hfold : #[Value.int .u8 m.kind, .int .u8 m.mode, .int .u8 m.why, .int .u8 m.yes, .int .u8 m.tx.1, .int .u32 m.tx.2.1, .int .u32 m.tx.2.2, .int .u32 m.reg.1, .int .u32 m.reg.2, .int .u8 (vsOf m.key 0), .int .u8 (vsOf m.key 1), .int .u8 (vsOf m.key 2), .int .u8 (vsOf m.key 3), .int .u8 (vsOf m.key 4), .int .u8 (vsOf m.key 5), .int .u8 (vsOf m.key 6), .int .u8 (vsOf m.key 7), .int .u32 m.time, .int .u32 m.no] = (headv m).toArray := by
    have h8 := up_eq m.key hm.key
    have h9 := congrArg Array.toList h8
    simp only at h9
    unfold headv txv regv
    rw [← h9]
    rfl
  have l19 := headv_length hm
  have hone := headv_one m
  have S9 := (B1.setRow (splice [.int .u8 0, .int .u8 0, .int .u8 0, .int .u8 0, .int .u8 0, .int .u32 0, .int .u32 0, .int .u32 0, .int .u32 0, .int .u8 0, .int .u8 0, .int .u8 0, .int .u8 0, .int .u8 0, .int .u8 0, .int .u8 0, .int .u8 0, .int .u32 0, .int .u32 0] 0 (headv m))).seg0
  have hsp : splice ([.int .u8 0, .int .u8 0, .int .u8 0, .int .u8 0, .int .u8 0, .int .u32 0, .int .u32 0, .int .u32 0, .int .u32 0, .int .u8 0, .int .u8 0, .int .u8 0, .int .u8 0, .int .u8 0, .int .u8 0, .int .u8 0, .int .u8 0, .int .u32 0, .int .u32 0] : List Value) 0 (headv m) = headv m := splice_all _ _ (by rw [l19]; rfl)
  rw [hsp] at S9
  clear hkk B0
  go_enter Tryz.func59, Tryz.ntmps59
  go_wp2_with (with_reducible refine wpList_st rfl 102 _ _ rfl 19 Tryz.sizeOf102 (w.heap.size + 1) 0 rfl (headv m) rfl l19 _ _ B1 (by decide) hone ?_; rw [hsp])
  refine bodyPost_ret (v := .agg (headv m).toArray) (by rw [results_row _ Tryz.results59 _ Tryz.isAgg102 19 Tryz.sizeOf102 (w.heap.size + 1) rfl _ l19 S9]) rfl ?_
  exact ⟨rfl, KK.setRow (fun h => absurd h (by omega)) _⟩

/-- Are two messages the same? -/
noncomputable def sameM (x y : PMsg) : Bool := sameH x y && (decide (x.item = y.item) && sameW x.writes y.writes)
theorem sameH_self (x : PMsg) : sameH x x = true := by simp [sameH]
theorem sameM_self (x : PMsg) : sameM x x = true := by unfold sameM; rw [sameH_self, decide_eq_true rfl, sameW_yes rfl]; rfl

set_option maxRecDepth 100000 in
set_option maxHeartbeats 1000000 in
theorem same_calls (x y : PMsg) (al bl : Option Addr) (c d : Nat) (wx : x.Wf) (wy : y.Wf) (sx : x.Sm) (sy : y.Sm) (hra : Rd w al (pwsv x.writes)) (hrb : Rd w bl (pwsv y.writes)) (_hla : ∀ q, At al q → q < w.heap.size) (_hlb : ∀ q, At bl q → q < w.heap.size) :
    Calls Tryz.prog 25 #[.agg (msgv x al c).toArray, .agg (msgv y bl d).toArray] w fun e w' => e = .returned (.bool (sameM x y)) ∧ Kept No w w' := by
  have X0 := (Blk.new w 42 (msgv x al c)).alloc (.cells (msgv y bl d).toArray 42)
  have Y0 := Blk.new' (w := w.alloc (.cells (msgv x al c).toArray 42)) (g := w.heap.size + 1) (by rw [World.size_alloc]) 42 (msgv y bl d)
  have KK := ((Kept.refl No w).alloc (.cells (msgv x al c).toArray 42)).alloc (.cells (msgv y bl d).toArray 42)
  have hsx : (msgv x al c).set 32 (.slice none 0 0) = msgv (noW' x) none 0 := msgv_writes x al c wx [] none 0
  have hsy : (msgv y bl d).set 32 (.slice none 0 0) = msgv (noW' y) none 0 := msgv_writes y bl d wy [] none 0
  have c32 := cell32_of wx al c
  have d32 := cell32_of wy bl d
  have lx := msgv_length (noW'_wf wx) none 0
  have ly := msgv_length (noW'_wf wy) none 0
  have ix := itemv_length wx.item
  have iy := itemv_length wy.item
  have HH := Lib.hid (fun (W : World) (m : PMsg) (a : Option Addr) (c : Nat) (h : m.Wf) => head_calls (w := W) m a c h)
  have hqh := fun w => eqlHeads (noW' x) (noW' y) (noW'_wf wx) (noW'_wf wy) w
  have hqi := fun w => eqlItem x.item y.item wx.item wy.item w
  have hg1 := eqGuard_heads
  have hg2 := eqGuard_item
  have ITX := Lib.hid (fun (W : World) (h : Blk W w.heap.size 42 (msgv (noW' x) none 0)) => (show Seg W w.heap.size 19 (itemv x.item) from (Ms.item (m := noW' x) ⟨h, Rd.nil _ _, fun q ⟨_, _, e, _⟩ => (nomatch e), noW'_wf wx, ⟨sx.item, fun q hq => (nomatch hq), Nat.zero_le _⟩⟩)))
  have ITY := Lib.hid (fun (W : World) (h : Blk W (w.heap.size + 1) 42 (msgv (noW' y) none 0)) => (show Seg W (w.heap.size + 1) 19 (itemv y.item) from (Ms.item (m := noW' y) ⟨h, Rd.nil _ _, fun q ⟨_, _, e, _⟩ => (nomatch e), noW'_wf wy, ⟨sy.item, fun q hq => (nomatch hq), Nat.zero_le _⟩⟩)))
  have HEQ := Lib.hid (fun (W : World) (h : Rd W al (pwsv x.writes) ∧ Rd W bl (pwsv y.writes)) => equal_calls (w := W) x.writes y.writes x.writes.length y.writes.length rfl rfl al bl c d wx.writes wy.writes h.1 h.2 sx.many sy.many)
  have hsame : sameH (noW' x) (noW' y) = sameH x y := rfl
  rw [hsame] at hqh
  have HSM := Lib.hid (show sameM x y = (sameH x y && (decide (x.item = y.item) && sameW x.writes y.writes)) from rfl)
  have HRA := Lib.hid hra
  have HRB := Lib.hid hrb
  clear hsame hra hrb
  go_enter Tryz.func25, Tryz.ntmps25
  go_upto_region 1 with (fail)
  generalize hW : (w.alloc (.cells (msgv x al c).toArray 42)).alloc (.cells (msgv y bl d).toArray 42) = W at *
  have q1 : ∀ n, (W.drewN n).cell? ⟨w.heap.size, 32, none⟩ = some (.slice al x.writes.length c) := fun n => (X0.cell 32).trans c32
  have q2 : ∀ n, (W.drewN n).cell? ⟨w.heap.size + 1, 32, none⟩ = some (.slice bl y.writes.length d) := fun n => (Y0.cell 32).trans d32
  have q3 : W.cell? ⟨w.heap.size, 32, none⟩ = some (.slice al x.writes.length c) := (X0.cell 32).trans c32
  have q4 : W.cell? ⟨w.heap.size + 1, 32, none⟩ = some (.slice bl y.writes.length d) := (Y0.cell 32).trans d32
  have q5 : ∀ n, (W.drewN n).frozen? ⟨w.heap.size, 32, none⟩ = false := fun n => X0.frozen 32
  have q6 : ∀ n, (W.drewN n).frozen? ⟨w.heap.size + 1, 32, none⟩ = false := fun n => Y0.frozen 32
  have q7 := X0.frozen 32
  have q8 := Y0.frozen 32
  have HWW := Lib.hid hW
  clear hW c32 d32
  go_quiet (fail)
  go_wp2
  have x1 := (show Blk (W.drewN nq) w.heap.size 42 (msgv x al c) from X0).set 32 (.slice none 0 0)
  rw [hsx] at x1
  have x2 := x1.setOther (a := ⟨w.heap.size + 1, 32, none⟩) (Nat.ne_of_lt (Nat.lt_succ_self _)) (.slice none 0 0)
  have y1 := ((show Blk (W.drewN nq) (w.heap.size + 1) 42 (msgv y bl d) from Y0).setOther (a := ⟨w.heap.size, 32, none⟩) (Nat.ne_of_gt (Nat.lt_succ_self _)) (.slice none 0 0)).set 32 (.slice none 0 0)
  rw [hsy] at y1
  have KS : Kept No w (((W.drewN nq).setCell ⟨w.heap.size, 32, none⟩ (.slice none 0 0)).setCell ⟨w.heap.size + 1, 32, none⟩ (.slice none 0 0)).drew := (((KK.drewN nq).setCell (fun h => absurd h (Nat.lt_irrefl _)) _).setCell (fun h => absurd h (Nat.not_lt.2 (Nat.le_succ _))) _).drew
  have KW2 := Lib.hid (fun (w3 : World) {w2 : World} (k2 : Kept No (((W.drewN nq).setCell ⟨w.heap.size, 32, none⟩ (.slice none 0 0)).setCell ⟨w.heap.size + 1, 32, none⟩ (.slice none 0 0)).drew w2) (k3 : Kept No w2 w3) => (show Rd w3 al (pwsv x.writes) ∧ Rd w3 bl (pwsv y.writes) from
    ⟨HRA.out.keptNo ((KS.trans k2 fun _ _ h => h).trans k3 fun _ _ h => h), HRB.out.keptNo ((KS.trans k2 fun _ _ h => h).trans k3 fun _ _ h => h)⟩))
  have hS0 : Blk (((W.drewN nq).setCell ⟨w.heap.size, 32, none⟩ (.slice none 0 0)).setCell ⟨w.heap.size + 1, 32, none⟩ (.slice none 0 0)).drew w.heap.size 42 (msgv (noW' x) none 0) ∧ Blk (((W.drewN nq).setCell ⟨w.heap.size, 32, none⟩ (.slice none 0 0)).setCell ⟨w.heap.size + 1, 32, none⟩ (.slice none 0 0)).drew (w.heap.size + 1) 42 (msgv (noW' y) none 0) := ⟨x2, y1⟩
  clear x1 x2 y1 q1 q2 q3 q4 q5 q6 q7 q8 X0 Y0 hsx hsy
  generalize hWS : ((W.drewN nq).setCell ⟨w.heap.size, 32, none⟩ (.slice none 0 0)).setCell ⟨w.heap.size + 1, 32, none⟩ (.slice none 0 0) = WS at *
  have HWS := Lib.hid hWS
  clear hWS
  cases e1 : sameH x y
  · rw [e1] at hqh HSM
    clear e1
    refine wp_region_held_drew (S := fun w' => Blk w' w.heap.size 42 (msgv (noW' x) none 0) ∧ Blk w' (w.heap.size + 1) 42 (msgv (noW' y) none 0)) (by kernel_rfl) (hS0) (fun hHeld => ?_)
    refine wpAnyH_take (i := 0) (oi := _) (v := ?_) rfl (by kernel_rfl) (by kernel_rfl) (by kernel_rfl) (fun _ _ _ h => h) (Or.inl ⟨by rfl, ?_⟩) (by assumption) ?_
    rotate_left
    · intro wv hSw; refine ld_val 42 ?lx1 ?l11 Tryz.isAgg42 33 Tryz.sizeOf42 w.heap.size 0 ?l21 (msgv (noW' x) none 0) lx (hSw.1.seg0); (case l11 => rfl); (case l21 => rfl)
    (try simp only [List.getElem_toArray, List.getElem_cons_zero, Act.put, List.setIfInBounds_toArray, List.set_cons_zero, List.set_cons_succ])
    refine wpAnyH_take (i := 2) (oi := _) (v := ?_) rfl (by kernel_rfl) (by kernel_rfl) (by kernel_rfl) (fun _ _ _ h => h) (Or.inl ⟨by rfl, ?_⟩) (by assumption) ?_
    rotate_left
    · intro wv hSw; refine ld_val 42 ?lx2 ?l12 Tryz.isAgg42 33 Tryz.sizeOf42 (w.heap.size + 1) 0 ?l22 (msgv (noW' y) none 0) ly (hSw.2.seg0); (case l12 => rfl); (case l22 => rfl)
    (try simp only [List.getElem_toArray, List.getElem_cons_zero, List.getElem_cons_succ, Act.put, List.setIfInBounds_toArray, List.set_cons_zero, List.set_cons_succ])
    refine wpAnyH_ready (rs := [1]) (by kernel_rfl) (by simp) ?_
    refine AllReadyH.cons (o := _) rfl (fun K hK => ?_) AllReadyH.nil
    go_simp
    go_at_call 59; refine (HH.out _ (noW' x) none 0 (noW'_wf wx)).mono ?_; rintro _ w2 ⟨rfl, kw2⟩
    (try go_wp2_with fail)
    refine hK.out _ _ (⟨hHeld.1.kept kw2 (fun h => h), hHeld.2.kept kw2 (fun h => h)⟩) (fun hHeld => ?_)
    clear hK K
    (try simp only [List.getElem_toArray, List.getElem_cons_zero, List.getElem_cons_succ, Act.put, List.setIfInBounds_toArray, List.set_cons_zero, List.set_cons_succ])
    refine wpAnyH_ready (rs := [3]) (by kernel_rfl) (by simp) ?_
    refine AllReadyH.cons (o := _) rfl (fun K hK => ?_) AllReadyH.nil
    go_simp
    go_at_call 59; refine (HH.out _ (noW' y) none 0 (noW'_wf wy)).mono ?_; rintro _ w3 ⟨rfl, kw3⟩
    (try go_wp2_with fail)
    refine hK.out _ _ (⟨hHeld.1.kept kw3 (fun h => h), hHeld.2.kept kw3 (fun h => h)⟩) (fun hHeld => ?_)
    clear hK K
    (try simp only [List.getElem_toArray, List.getElem_cons_zero, List.getElem_cons_succ, Act.put, List.setIfInBounds_toArray, List.set_cons_zero, List.set_cons_succ])
    refine wpAnyH_take (i := 4) (oi := _) (v := ?_) rfl (by kernel_rfl) (by kernel_rfl) (by kernel_rfl) (fun _ _ _ h => h) (Or.inl ⟨by rfl, ?_⟩) (by assumption) ?_
    rotate_left
    · intro wv hSw; (try dsimp only at hSw); go_simp; (try with_reducible rfl)
    (try simp only [List.getElem_toArray, List.getElem_cons_zero, List.getElem_cons_succ, Act.put, List.setIfInBounds_toArray, List.set_cons_zero, List.set_cons_succ])
    refine wpAnyH_take (i := 5) (oi := _) (v := ?_) rfl (by kernel_rfl) (by kernel_rfl) (by kernel_rfl) (fun _ _ _ h => h) (Or.inl ⟨by rfl, ?_⟩) (by assumption) ?_
    rotate_left
    · intro wv hSw; (try dsimp only at hSw); go_simp; (try with_reducible rfl)
    (try simp only [List.getElem_toArray, List.getElem_cons_zero, List.getElem_cons_succ, Act.put, List.setIfInBounds_toArray, List.set_cons_zero, List.set_cons_succ])
    refine wpAnyH_take (i := 6) (oi := _) (v := undef) rfl (by kernel_rfl) (by kernel_rfl) (by kernel_rfl) (fun _ _ _ h => h) (Or.inr ⟨by rfl, rfl⟩) (by assumption) ?_
    (try simp only [List.getElem_toArray, List.getElem_cons_zero, List.getElem_cons_succ, Act.put, List.setIfInBounds_toArray, List.set_cons_zero, List.set_cons_succ])
    refine wpAnyH_take (i := 7) (oi := _) (v := undef) rfl (by kernel_rfl) (by kernel_rfl) (by kernel_rfl) (fun _ _ _ h => h) (Or.inr ⟨by rfl, rfl⟩) (by assumption) ?_
    (try simp only [List.getElem_toArray, List.getElem_cons_zero, List.getElem_cons_succ, Act.put, List.setIfInBounds_toArray, List.set_cons_zero, List.set_cons_succ])
    refine wpAnyH_take (i := 8) (oi := _) (v := undef) rfl (by kernel_rfl) (by kernel_rfl) (by kernel_rfl) (fun _ _ _ h => h) (Or.inr ⟨by rfl, rfl⟩) (by assumption) ?_
    (try simp only [List.getElem_toArray, List.getElem_cons_zero, List.getElem_cons_succ, Act.put, List.setIfInBounds_toArray, List.set_cons_zero, List.set_cons_succ])
    refine wpAnyH_take (i := 9) (oi := _) (v := undef) rfl (by kernel_rfl) (by kernel_rfl) (by kernel_rfl) (fun _ _ _ h => h) (Or.inr ⟨by rfl, rfl⟩) (by assumption) ?_
    (try simp only [List.getElem_toArray, List.getElem_cons_zero, List.getElem_cons_succ, Act.put, List.setIfInBounds_toArray, List.set_cons_zero, List.set_cons_succ])
    refine wpAnyH_take (i := 10) (oi := _) (v := undef) rfl (by kernel_rfl) (by kernel_rfl) (by kernel_rfl) (fun _ _ _ h => h) (Or.inr ⟨by rfl, rfl⟩) (by assumption) ?_
    (try simp only [List.getElem_toArray, List.getElem_cons_zero, List.getElem_cons_succ, Act.put, List.setIfInBounds_toArray, List.set_cons_zero, List.set_cons_succ])
    refine wpAnyH_take (i := 11) (oi := _) (v := ?_) rfl (by kernel_rfl) (by kernel_rfl) (by kernel_rfl) (fun _ _ _ h => h) (Or.inl ⟨by rfl, ?_⟩) (by assumption) ?_
    rotate_left
    · intro wv hSw; (try dsimp only at hSw); go_simp; (try with_reducible rfl)
    (try simp only [List.getElem_toArray, List.getElem_cons_zero, List.getElem_cons_succ, Act.put, List.setIfInBounds_toArray, List.set_cons_zero, List.set_cons_succ])
    refine wpAnyH_take (i := 12) (oi := _) (v := ?_) rfl (by kernel_rfl) (by kernel_rfl) (by kernel_rfl) (fun _ _ _ h => h) (Or.inl ⟨by rfl, ?_⟩) (by assumption) ?_
    rotate_left
    · intro wv hSw; (try dsimp only at hSw); go_simp; (try with_reducible rfl)
    (try simp only [List.getElem_toArray, List.getElem_cons_zero, List.getElem_cons_succ, Act.put, List.setIfInBounds_toArray, List.set_cons_zero, List.set_cons_succ])
    refine wpAnyH_take (i := 13) (oi := _) (v := undef) rfl (by kernel_rfl) (by kernel_rfl) (by kernel_rfl) (fun _ _ _ h => h) (Or.inr ⟨by rfl, rfl⟩) (by assumption) ?_
    (try simp only [List.getElem_toArray, List.getElem_cons_zero, List.getElem_cons_succ, Act.put, List.setIfInBounds_toArray, List.set_cons_zero, List.set_cons_succ])
    refine wpAnyH_take (i := 14) (oi := _) (v := undef) rfl (by kernel_rfl) (by kernel_rfl) (by kernel_rfl) (fun _ _ _ h => h) (Or.inr ⟨by rfl, rfl⟩) (by assumption) ?_
    (try simp only [List.getElem_toArray, List.getElem_cons_zero, List.getElem_cons_succ, Act.put, List.setIfInBounds_toArray, List.set_cons_zero, List.set_cons_succ])
    refine wpAnyH_take (i := 15) (oi := _) (v := undef) rfl (by kernel_rfl) (by kernel_rfl) (by kernel_rfl) (fun _ _ _ h => h) (Or.inr ⟨by rfl, rfl⟩) (by assumption) ?_
    (try simp only [List.getElem_toArray, List.getElem_cons_zero, List.getElem_cons_succ, Act.put, List.setIfInBounds_toArray, List.set_cons_zero, List.set_cons_succ])
    refine wpAnyH_take (i := 16) (oi := _) (v := ?_) rfl (by kernel_rfl) (by kernel_rfl) (by kernel_rfl) (fun _ _ _ h => h) (Or.inl ⟨by rfl, ?_⟩) (by assumption) ?_
    rotate_left
    · intro wv hSw; (try dsimp only at hSw); go_simp; (try with_reducible rfl)
    (try simp only [List.getElem_toArray, List.getElem_cons_zero, List.getElem_cons_succ, Act.put, List.setIfInBounds_toArray, List.set_cons_zero, List.set_cons_succ])
    refine wpAnyH_take (i := 17) (oi := _) (v := ?_) rfl (by kernel_rfl) (by kernel_rfl) (by kernel_rfl) (fun _ _ _ h => h) (Or.inl ⟨by rfl, ?_⟩) (by assumption) ?_
    rotate_left
    · intro wv hSw; (try dsimp only at hSw); go_simp; (try with_reducible rfl)
    (try simp only [List.getElem_toArray, List.getElem_cons_zero, List.getElem_cons_succ, Act.put, List.setIfInBounds_toArray, List.set_cons_zero, List.set_cons_succ])
    refine wpAnyH_done (by kernel_rfl) ?_ _
    go_wp2
    go_ret
    exact ⟨by rw [HSM.out]; rfl, (KS.trans kw2 fun _ _ h => h).trans kw3 fun _ _ h => h⟩
  by_cases e2 : x.item = y.item
  · rw [e1, decide_eq_true e2] at HSM
    rw [e1] at hqh
    rw [decide_eq_true e2] at hqi
    clear e1 e2
    generalize sameW x.writes y.writes = z at *
    refine wp_region_held_drew (S := fun w' => Blk w' w.heap.size 42 (msgv (noW' x) none 0) ∧ Blk w' (w.heap.size + 1) 42 (msgv (noW' y) none 0)) (by kernel_rfl) (hS0) (fun hHeld => ?_)
    refine wpAnyH_take (i := 0) (oi := _) (v := ?_) rfl (by kernel_rfl) (by kernel_rfl) (by kernel_rfl) (fun _ _ _ h => h) (Or.inl ⟨by rfl, ?_⟩) (by assumption) ?_
    rotate_left
    · intro wv hSw; refine ld_val 42 ?lx3 ?l13 Tryz.isAgg42 33 Tryz.sizeOf42 w.heap.size 0 ?l23 (msgv (noW' x) none 0) lx (hSw.1.seg0); (case l13 => rfl); (case l23 => rfl)
    (try simp only [List.getElem_toArray, List.getElem_cons_zero, Act.put, List.setIfInBounds_toArray, List.set_cons_zero, List.set_cons_succ])
    refine wpAnyH_take (i := 2) (oi := _) (v := ?_) rfl (by kernel_rfl) (by kernel_rfl) (by kernel_rfl) (fun _ _ _ h => h) (Or.inl ⟨by rfl, ?_⟩) (by assumption) ?_
    rotate_left
    · intro wv hSw; refine ld_val 42 ?lx4 ?l14 Tryz.isAgg42 33 Tryz.sizeOf42 (w.heap.size + 1) 0 ?l24 (msgv (noW' y) none 0) ly (hSw.2.seg0); (case l14 => rfl); (case l24 => rfl)
    (try simp only [List.getElem_toArray, List.getElem_cons_zero, List.getElem_cons_succ, Act.put, List.setIfInBounds_toArray, List.set_cons_zero, List.set_cons_succ])
    refine wpAnyH_ready (rs := [1]) (by kernel_rfl) (by simp) ?_
    refine AllReadyH.cons (o := _) rfl (fun K hK => ?_) AllReadyH.nil
    go_simp
    go_at_call 59; refine (HH.out _ (noW' x) none 0 (noW'_wf wx)).mono ?_; rintro _ w2 ⟨rfl, kw2⟩
    (try go_wp2_with fail)
    refine hK.out _ _ (⟨hHeld.1.kept kw2 (fun h => h), hHeld.2.kept kw2 (fun h => h)⟩) (fun hHeld => ?_)
    clear hK K
    (try simp only [List.getElem_toArray, List.getElem_cons_zero, List.getElem_cons_succ, Act.put, List.setIfInBounds_toArray, List.set_cons_zero, List.set_cons_succ])
    refine wpAnyH_ready (rs := [3]) (by kernel_rfl) (by simp) ?_
    refine AllReadyH.cons (o := _) rfl (fun K hK => ?_) AllReadyH.nil
    go_simp
    go_at_call 59; refine (HH.out _ (noW' y) none 0 (noW'_wf wy)).mono ?_; rintro _ w3 ⟨rfl, kw3⟩
    (try go_wp2_with fail)
    refine hK.out _ _ (⟨hHeld.1.kept kw3 (fun h => h), hHeld.2.kept kw3 (fun h => h)⟩) (fun hHeld => ?_)
    clear hK K
    (try simp only [List.getElem_toArray, List.getElem_cons_zero, List.getElem_cons_succ, Act.put, List.setIfInBounds_toArray, List.set_cons_zero, List.set_cons_succ])
    refine wpAnyH_take (i := 4) (oi := _) (v := ?_) rfl (by kernel_rfl) (by kernel_rfl) (by kernel_rfl) (fun _ _ _ h => h) (Or.inl ⟨by rfl, ?_⟩) (by assumption) ?_
    rotate_left
    · intro wv hSw; (try dsimp only at hSw); go_simp; (try with_reducible rfl)
    (try simp only [List.getElem_toArray, List.getElem_cons_zero, List.getElem_cons_succ, Act.put, List.setIfInBounds_toArray, List.set_cons_zero, List.set_cons_succ])
    refine wpAnyH_take (i := 5) (oi := _) (v := ?_) rfl (by kernel_rfl) (by kernel_rfl) (by kernel_rfl) (fun _ _ _ h => h) (Or.inl ⟨by rfl, ?_⟩) (by assumption) ?_
    rotate_left
    · intro wv hSw; (try dsimp only at hSw); go_simp; (try with_reducible rfl)
    (try simp only [List.getElem_toArray, List.getElem_cons_zero, List.getElem_cons_succ, Act.put, List.setIfInBounds_toArray, List.set_cons_zero, List.set_cons_succ])
    refine wpAnyH_take (i := 6) (oi := _) (v := ?_) rfl (by kernel_rfl) (by kernel_rfl) (by kernel_rfl) (fun _ _ _ h => h) (Or.inl ⟨by rfl, ?_⟩) (by assumption) ?_
    rotate_left
    · intro wv hSw; (try dsimp only at hSw); go_simp; (try with_reducible rfl)
    (try simp only [List.getElem_toArray, List.getElem_cons_zero, List.getElem_cons_succ, Act.put, List.setIfInBounds_toArray, List.set_cons_zero, List.set_cons_succ])
    refine wpAnyH_take (i := 7) (oi := _) (v := ?_) rfl (by kernel_rfl) (by kernel_rfl) (by kernel_rfl) (fun _ _ _ h => h) (Or.inl ⟨by rfl, ?_⟩) (by assumption) ?_
    rotate_left
    · intro wv hSw; refine ld_val 32 ?lx5 ?l15 Tryz.isAgg32 13 Tryz.sizeOf32 w.heap.size 19 ?l25 (itemv x.item) ix (ITX.out _ hSw.1); (case l15 => rfl); (case l25 => rfl)
    (try simp only [List.getElem_toArray, List.getElem_cons_zero, List.getElem_cons_succ, Act.put, List.setIfInBounds_toArray, List.set_cons_zero, List.set_cons_succ])
    refine wpAnyH_take (i := 8) (oi := _) (v := ?_) rfl (by kernel_rfl) (by kernel_rfl) (by kernel_rfl) (fun _ _ _ h => h) (Or.inl ⟨by rfl, ?_⟩) (by assumption) ?_
    rotate_left
    · intro wv hSw; (try dsimp only at hSw); go_simp; (try with_reducible rfl)
    (try simp only [List.getElem_toArray, List.getElem_cons_zero, List.getElem_cons_succ, Act.put, List.setIfInBounds_toArray, List.set_cons_zero, List.set_cons_succ])
    refine wpAnyH_take (i := 9) (oi := _) (v := ?_) rfl (by kernel_rfl) (by kernel_rfl) (by kernel_rfl) (fun _ _ _ h => h) (Or.inl ⟨by rfl, ?_⟩) (by assumption) ?_
    rotate_left
    · intro wv hSw; refine ld_val 32 ?lx6 ?l16 Tryz.isAgg32 13 Tryz.sizeOf32 (w.heap.size + 1) 19 ?l26 (itemv y.item) iy (ITY.out _ hSw.2); (case l16 => rfl); (case l26 => rfl)
    (try simp only [List.getElem_toArray, List.getElem_cons_zero, List.getElem_cons_succ, Act.put, List.setIfInBounds_toArray, List.set_cons_zero, List.set_cons_succ])
    refine wpAnyH_take (i := 10) (oi := _) (v := ?_) rfl (by kernel_rfl) (by kernel_rfl) (by kernel_rfl) (fun _ _ _ h => h) (Or.inl ⟨by rfl, ?_⟩) (by assumption) ?_
    rotate_left
    · intro wv hSw; (try dsimp only at hSw); go_simp; (try with_reducible rfl)
    (try simp only [List.getElem_toArray, List.getElem_cons_zero, List.getElem_cons_succ, Act.put, List.setIfInBounds_toArray, List.set_cons_zero, List.set_cons_succ])
    refine wpAnyH_take (i := 11) (oi := _) (v := ?_) rfl (by kernel_rfl) (by kernel_rfl) (by kernel_rfl) (fun _ _ _ h => h) (Or.inl ⟨by rfl, ?_⟩) (by assumption) ?_
    rotate_left
    · intro wv hSw; (try dsimp only at hSw); go_simp; (try with_reducible rfl)
    (try simp only [List.getElem_toArray, List.getElem_cons_zero, List.getElem_cons_succ, Act.put, List.setIfInBounds_toArray, List.set_cons_zero, List.set_cons_succ])
    refine wpAnyH_take (i := 12) (oi := _) (v := ?_) rfl (by kernel_rfl) (by kernel_rfl) (by kernel_rfl) (fun _ _ _ h => h) (Or.inl ⟨by rfl, ?_⟩) (by assumption) ?_
    rotate_left
    · intro wv hSw; (try dsimp only at hSw); go_simp; (try with_reducible rfl)
    (try simp only [List.getElem_toArray, List.getElem_cons_zero, List.getElem_cons_succ, Act.put, List.setIfInBounds_toArray, List.set_cons_zero, List.set_cons_succ])
    refine wpAnyH_take (i := 13) (oi := _) (v := ?_) rfl (by kernel_rfl) (by kernel_rfl) (by kernel_rfl) (fun _ _ _ h => h) (Or.inl ⟨by rfl, ?_⟩) (by assumption) ?_
    rotate_left
    · intro wv hSw; (try dsimp only at hSw); go_simp; (try with_reducible rfl)
    (try simp only [List.getElem_toArray, List.getElem_cons_zero, List.getElem_cons_succ, Act.put, List.setIfInBounds_toArray, List.set_cons_zero, List.set_cons_succ])
    refine wpAnyH_take (i := 14) (oi := _) (v := ?_) rfl (by kernel_rfl) (by kernel_rfl) (by kernel_rfl) (fun _ _ _ h => h) (Or.inl ⟨by rfl, ?_⟩) (by assumption) ?_
    rotate_left
    · intro wv hSw; (try dsimp only at hSw); go_simp; (try with_reducible rfl)
    (try simp only [List.getElem_toArray, List.getElem_cons_zero, List.getElem_cons_succ, Act.put, List.setIfInBounds_toArray, List.set_cons_zero, List.set_cons_succ])
    refine wpAnyH_ready (rs := [15]) (by kernel_rfl) (by simp) ?_
    refine AllReadyH.cons (o := _) rfl (fun K hK => ?_) AllReadyH.nil
    go_simp
    go_at_call 60; refine (HEQ.out _ (KW2.out _ kw2 kw3)).mono ?_; rintro _ w4 ⟨rfl, kw4⟩
    (try go_wp2_with fail)
    refine hK.out _ _ (⟨hHeld.1.kept kw4 (fun h => h), hHeld.2.kept kw4 (fun h => h)⟩) (fun hHeld => ?_)
    clear hK K
    (try simp only [List.getElem_toArray, List.getElem_cons_zero, List.getElem_cons_succ, Act.put, List.setIfInBounds_toArray, List.set_cons_zero, List.set_cons_succ])
    refine wpAnyH_take (i := 16) (oi := _) (v := ?_) rfl (by kernel_rfl) (by kernel_rfl) (by kernel_rfl) (fun _ _ _ h => h) (Or.inl ⟨by rfl, ?_⟩) (by assumption) ?_
    rotate_left
    · intro wv hSw; (try dsimp only at hSw); go_simp; (try with_reducible rfl)
    (try simp only [List.getElem_toArray, List.getElem_cons_zero, List.getElem_cons_succ, Act.put, List.setIfInBounds_toArray, List.set_cons_zero, List.set_cons_succ])
    refine wpAnyH_take (i := 17) (oi := _) (v := ?_) rfl (by kernel_rfl) (by kernel_rfl) (by kernel_rfl) (fun _ _ _ h => h) (Or.inl ⟨by rfl, ?_⟩) (by assumption) ?_
    rotate_left
    · intro wv hSw; (try dsimp only at hSw); go_simp; (try with_reducible rfl)
    (try simp only [List.getElem_toArray, List.getElem_cons_zero, List.getElem_cons_succ, Act.put, List.setIfInBounds_toArray, List.set_cons_zero, List.set_cons_succ])
    refine wpAnyH_done (by kernel_rfl) ?_ _
    go_wp2
    go_ret
    exact ⟨by rw [HSM.out]; rfl, ((KS.trans kw2 fun _ _ h => h).trans kw3 fun _ _ h => h).trans kw4 fun _ _ h => h⟩
  · rw [e1, decide_eq_false e2] at HSM
    rw [e1] at hqh
    rw [decide_eq_false e2] at hqi
    clear e1 e2
    refine wp_region_held_drew (S := fun w' => Blk w' w.heap.size 42 (msgv (noW' x) none 0) ∧ Blk w' (w.heap.size + 1) 42 (msgv (noW' y) none 0)) (by kernel_rfl) (hS0) (fun hHeld => ?_)
    refine wpAnyH_take (i := 0) (oi := _) (v := ?_) rfl (by kernel_rfl) (by kernel_rfl) (by kernel_rfl) (fun _ _ _ h => h) (Or.inl ⟨by rfl, ?_⟩) (by assumption) ?_
    rotate_left
    · intro wv hSw; refine ld_val 42 ?lx7 ?l17 Tryz.isAgg42 33 Tryz.sizeOf42 w.heap.size 0 ?l27 (msgv (noW' x) none 0) lx (hSw.1.seg0); (case l17 => rfl); (case l27 => rfl)
    (try simp only [List.getElem_toArray, List.getElem_cons_zero, Act.put, List.setIfInBounds_toArray, List.set_cons_zero, List.set_cons_succ])
    refine wpAnyH_take (i := 2) (oi := _) (v := ?_) rfl (by kernel_rfl) (by kernel_rfl) (by kernel_rfl) (fun _ _ _ h => h) (Or.inl ⟨by rfl, ?_⟩) (by assumption) ?_
    rotate_left
    · intro wv hSw; refine ld_val 42 ?lx8 ?l18 Tryz.isAgg42 33 Tryz.sizeOf42 (w.heap.size + 1) 0 ?l28 (msgv (noW' y) none 0) ly (hSw.2.seg0); (case l18 => rfl); (case l28 => rfl)
    (try simp only [List.getElem_toArray, List.getElem_cons_zero, List.getElem_cons_succ, Act.put, List.setIfInBounds_toArray, List.set_cons_zero, List.set_cons_succ])
    refine wpAnyH_ready (rs := [1]) (by kernel_rfl) (by simp) ?_
    refine AllReadyH.cons (o := _) rfl (fun K hK => ?_) AllReadyH.nil
    go_simp
    go_at_call 59; refine (HH.out _ (noW' x) none 0 (noW'_wf wx)).mono ?_; rintro _ w2 ⟨rfl, kw2⟩
    (try go_wp2_with fail)
    refine hK.out _ _ (⟨hHeld.1.kept kw2 (fun h => h), hHeld.2.kept kw2 (fun h => h)⟩) (fun hHeld => ?_)
    clear hK K
    (try simp only [List.getElem_toArray, List.getElem_cons_zero, List.getElem_cons_succ, Act.put, List.setIfInBounds_toArray, List.set_cons_zero, List.set_cons_succ])
    refine wpAnyH_ready (rs := [3]) (by kernel_rfl) (by simp) ?_
    refine AllReadyH.cons (o := _) rfl (fun K hK => ?_) AllReadyH.nil
    go_simp
    go_at_call 59; refine (HH.out _ (noW' y) none 0 (noW'_wf wy)).mono ?_; rintro _ w3 ⟨rfl, kw3⟩
    (try go_wp2_with fail)
    refine hK.out _ _ (⟨hHeld.1.kept kw3 (fun h => h), hHeld.2.kept kw3 (fun h => h)⟩) (fun hHeld => ?_)
    clear hK K
    (try simp only [List.getElem_toArray, List.getElem_cons_zero, List.getElem_cons_succ, Act.put, List.setIfInBounds_toArray, List.set_cons_zero, List.set_cons_succ])
    refine wpAnyH_take (i := 4) (oi := _) (v := ?_) rfl (by kernel_rfl) (by kernel_rfl) (by kernel_rfl) (fun _ _ _ h => h) (Or.inl ⟨by rfl, ?_⟩) (by assumption) ?_
    rotate_left
    · intro wv hSw; (try dsimp only at hSw); go_simp; (try with_reducible rfl)
    (try simp only [List.getElem_toArray, List.getElem_cons_zero, List.getElem_cons_succ, Act.put, List.setIfInBounds_toArray, List.set_cons_zero, List.set_cons_succ])
    refine wpAnyH_take (i := 5) (oi := _) (v := ?_) rfl (by kernel_rfl) (by kernel_rfl) (by kernel_rfl) (fun _ _ _ h => h) (Or.inl ⟨by rfl, ?_⟩) (by assumption) ?_
    rotate_left
    · intro wv hSw; (try dsimp only at hSw); go_simp; (try with_reducible rfl)
    (try simp only [List.getElem_toArray, List.getElem_cons_zero, List.getElem_cons_succ, Act.put, List.setIfInBounds_toArray, List.set_cons_zero, List.set_cons_succ])
    refine wpAnyH_take (i := 6) (oi := _) (v := ?_) rfl (by kernel_rfl) (by kernel_rfl) (by kernel_rfl) (fun _ _ _ h => h) (Or.inl ⟨by rfl, ?_⟩) (by assumption) ?_
    rotate_left
    · intro wv hSw; (try dsimp only at hSw); go_simp; (try with_reducible rfl)
    (try simp only [List.getElem_toArray, List.getElem_cons_zero, List.getElem_cons_succ, Act.put, List.setIfInBounds_toArray, List.set_cons_zero, List.set_cons_succ])
    refine wpAnyH_take (i := 7) (oi := _) (v := ?_) rfl (by kernel_rfl) (by kernel_rfl) (by kernel_rfl) (fun _ _ _ h => h) (Or.inl ⟨by rfl, ?_⟩) (by assumption) ?_
    rotate_left
    · intro wv hSw; refine ld_val 32 ?lx9 ?l19 Tryz.isAgg32 13 Tryz.sizeOf32 w.heap.size 19 ?l29 (itemv x.item) ix (ITX.out _ hSw.1); (case l19 => rfl); (case l29 => rfl)
    (try simp only [List.getElem_toArray, List.getElem_cons_zero, List.getElem_cons_succ, Act.put, List.setIfInBounds_toArray, List.set_cons_zero, List.set_cons_succ])
    refine wpAnyH_take (i := 8) (oi := _) (v := ?_) rfl (by kernel_rfl) (by kernel_rfl) (by kernel_rfl) (fun _ _ _ h => h) (Or.inl ⟨by rfl, ?_⟩) (by assumption) ?_
    rotate_left
    · intro wv hSw; (try dsimp only at hSw); go_simp; (try with_reducible rfl)
    (try simp only [List.getElem_toArray, List.getElem_cons_zero, List.getElem_cons_succ, Act.put, List.setIfInBounds_toArray, List.set_cons_zero, List.set_cons_succ])
    refine wpAnyH_take (i := 9) (oi := _) (v := ?_) rfl (by kernel_rfl) (by kernel_rfl) (by kernel_rfl) (fun _ _ _ h => h) (Or.inl ⟨by rfl, ?_⟩) (by assumption) ?_
    rotate_left
    · intro wv hSw; refine ld_val 32 ?lx10 ?l110 Tryz.isAgg32 13 Tryz.sizeOf32 (w.heap.size + 1) 19 ?l210 (itemv y.item) iy (ITY.out _ hSw.2); (case l110 => rfl); (case l210 => rfl)
    (try simp only [List.getElem_toArray, List.getElem_cons_zero, List.getElem_cons_succ, Act.put, List.setIfInBounds_toArray, List.set_cons_zero, List.set_cons_succ])
    refine wpAnyH_take (i := 10) (oi := _) (v := ?_) rfl (by kernel_rfl) (by kernel_rfl) (by kernel_rfl) (fun _ _ _ h => h) (Or.inl ⟨by rfl, ?_⟩) (by assumption) ?_
    rotate_left
    · intro wv hSw; (try dsimp only at hSw); go_simp; (try with_reducible rfl)
    (try simp only [List.getElem_toArray, List.getElem_cons_zero, List.getElem_cons_succ, Act.put, List.setIfInBounds_toArray, List.set_cons_zero, List.set_cons_succ])
    refine wpAnyH_take (i := 11) (oi := _) (v := ?_) rfl (by kernel_rfl) (by kernel_rfl) (by kernel_rfl) (fun _ _ _ h => h) (Or.inl ⟨by rfl, ?_⟩) (by assumption) ?_
    rotate_left
    · intro wv hSw; (try dsimp only at hSw); go_simp; (try with_reducible rfl)
    (try simp only [List.getElem_toArray, List.getElem_cons_zero, List.getElem_cons_succ, Act.put, List.setIfInBounds_toArray, List.set_cons_zero, List.set_cons_succ])
    refine wpAnyH_take (i := 12) (oi := _) (v := ?_) rfl (by kernel_rfl) (by kernel_rfl) (by kernel_rfl) (fun _ _ _ h => h) (Or.inl ⟨by rfl, ?_⟩) (by assumption) ?_
    rotate_left
    · intro wv hSw; (try dsimp only at hSw); go_simp; (try with_reducible rfl)
    (try simp only [List.getElem_toArray, List.getElem_cons_zero, List.getElem_cons_succ, Act.put, List.setIfInBounds_toArray, List.set_cons_zero, List.set_cons_succ])
    refine wpAnyH_take (i := 13) (oi := _) (v := undef) rfl (by kernel_rfl) (by kernel_rfl) (by kernel_rfl) (fun _ _ _ h => h) (Or.inr ⟨by rfl, rfl⟩) (by assumption) ?_
    (try simp only [List.getElem_toArray, List.getElem_cons_zero, List.getElem_cons_succ, Act.put, List.setIfInBounds_toArray, List.set_cons_zero, List.set_cons_succ])
    refine wpAnyH_take (i := 14) (oi := _) (v := undef) rfl (by kernel_rfl) (by kernel_rfl) (by kernel_rfl) (fun _ _ _ h => h) (Or.inr ⟨by rfl, rfl⟩) (by assumption) ?_
    (try simp only [List.getElem_toArray, List.getElem_cons_zero, List.getElem_cons_succ, Act.put, List.setIfInBounds_toArray, List.set_cons_zero, List.set_cons_succ])
    refine wpAnyH_take (i := 15) (oi := _) (v := undef) rfl (by kernel_rfl) (by kernel_rfl) (by kernel_rfl) (fun _ _ _ h => h) (Or.inr ⟨by rfl, rfl⟩) (by assumption) ?_
    (try simp only [List.getElem_toArray, List.getElem_cons_zero, List.getElem_cons_succ, Act.put, List.setIfInBounds_toArray, List.set_cons_zero, List.set_cons_succ])
    refine wpAnyH_take (i := 16) (oi := _) (v := ?_) rfl (by kernel_rfl) (by kernel_rfl) (by kernel_rfl) (fun _ _ _ h => h) (Or.inl ⟨by rfl, ?_⟩) (by assumption) ?_
    rotate_left
    · intro wv hSw; (try dsimp only at hSw); go_simp; (try with_reducible rfl)
    (try simp only [List.getElem_toArray, List.getElem_cons_zero, List.getElem_cons_succ, Act.put, List.setIfInBounds_toArray, List.set_cons_zero, List.set_cons_succ])
    refine wpAnyH_take (i := 17) (oi := _) (v := ?_) rfl (by kernel_rfl) (by kernel_rfl) (by kernel_rfl) (fun _ _ _ h => h) (Or.inl ⟨by rfl, ?_⟩) (by assumption) ?_
    rotate_left
    · intro wv hSw; (try dsimp only at hSw); go_simp; (try with_reducible rfl)
    (try simp only [List.getElem_toArray, List.getElem_cons_zero, List.getElem_cons_succ, Act.put, List.setIfInBounds_toArray, List.set_cons_zero, List.set_cons_succ])
    refine wpAnyH_done (by kernel_rfl) ?_ _
    go_wp2
    go_ret
    exact ⟨by rw [HSM.out]; rfl, (KS.trans kw2 fun _ _ h => h).trans kw3 fun _ _ h => h⟩
end
end Go.Proofs.YtjfmidcaekhhgaaGreatDoor
