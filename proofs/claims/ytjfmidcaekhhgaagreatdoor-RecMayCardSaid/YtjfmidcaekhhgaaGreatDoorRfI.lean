/- The document's Same of messages and of records: walks. Printed by gen_rfi.py. -/
import Derived.Test.YtjfmidcaekhhgaaGreatDoorRfH
namespace Go.Proofs.YtjfmidcaekhhgaaGreatDoor
open Go.RowKit Go.PM

theorem seg19_of {m : PMsg} (hw : m.Wf) (a : Option Addr) (c : Nat) : (List.drop 19 (msgv m a c)).take (itemv m.item).length = itemv m.item := by
  have hk : (bcells m.key).length = 8 := by rw [bcells_length, hw.key]
  have hi := itemv_length hw.item
  have hd : List.drop 12 (bcells m.key) = [] := List.drop_of_length_le (by omega)
  simp [msgv, txv, regv, hi, hk, hd, List.drop_append]
theorem sameM_eq (x y : PMsg) : sameM x y = (((x.kind : Int) == y.kind) && ((decide (x.tx = y.tx)) && (((x.time : Int) == y.time) && ((decide (x.reg = y.reg)) && ((x.key == y.key) && (((x.mode : Int) == y.mode) && (((x.no : Int) == y.no) && (((x.why : Int) == y.why) && (((x.yes : Int) == y.yes) && ((decide (x.item = y.item)) && (sameW x.writes y.writes))))))))))) := by
  unfold sameM sameH
  rw [Bool.eq_iff_iff]
  simp only [Bool.and_eq_true, beq_iff_eq, decide_eq_true_eq, Prod.ext_iff, Int.natCast_inj]
  constructor
  · rintro ⟨⟨h0, h1, h2, h3, h4, h5, h6, h7, h8, h9, h10, h11⟩, h12, h13⟩
    simp only [h0, h1, h2, h3, h4, h5, h6, h7, h8, h9, h10, h11, h12, h13, and_self]
  · rintro ⟨h0, ⟨h1, h2, h3⟩, h4, ⟨h5, h6⟩, h7, h8, h9, h10, h11, h12, h13⟩
    simp only [h0, h1, h2, h3, h4, h5, h6, h7, h8, h9, h10, h11, h12, h13, and_self]
theorem sameR_eq (x y : PRec) : sameR x y = (((x.kind : Int) == y.kind) && (((x.n : Int) == y.n) && ((decide (x.tx = y.tx)) && ((decide (x.reg = y.reg)) && (((x.members : Int) == y.members) && ((sameW x.writes y.writes) && ((x.missing == y.missing) && ((x.key == y.key) && (decide (x.item = y.item)))))))))) := by
  unfold sameR
  rw [Bool.eq_iff_iff]
  simp only [Bool.and_eq_true]
  constructor
  · rintro ⟨h0, h1, h2, h3, h4, h5, h6, h7, h8⟩
    exact ⟨h0, h1, h2, h3, h4, h7, h8, h5, h6⟩
  · rintro ⟨h0, h1, h2, h3, h4, h7, h8, h5, h6⟩
    exact ⟨h0, h1, h2, h3, h4, h5, h6, h7, h8⟩

section
variable {w : World}
set_option maxRecDepth 100000 in
set_option maxHeartbeats 4000000 in
theorem refSame_calls (x y : PMsg) (al bl : Option Addr) (c d : Nat) (wx : x.Wf) (wy : y.Wf) (sx : x.Sm) (sy : y.Sm) (hra : Rd w al (pwsv x.writes)) (hrb : Rd w bl (pwsv y.writes)) :
    Calls Tryz.prog 26 #[.agg (msgv x al c).toArray, .agg (msgv y bl d).toArray] w fun e w' => e = .returned (.bool (sameM x y)) ∧ Kept No w w' := by
  have X0 := (Blk.new w 35 (msgv x al c)).alloc (.cells (msgv y bl d).toArray 35)
  have Y0 := Blk.new' (w := w.alloc (.cells (msgv x al c).toArray 35)) (g := w.heap.size + 1) (by rw [World.size_alloc]) 35 (msgv y bl d)
  have KK := ((Kept.refl No w).alloc (.cells (msgv x al c).toArray 35)).alloc (.cells (msgv y bl d).toArray 35)
  have c0 := (X0.cell 0).trans (show (msgv x al c)[0]? = some (.int .u8 x.kind) from rfl)
  have c4 := (X0.cell 4).trans (show (msgv x al c)[4]? = some (.int .u32 x.time) from rfl)
  have c15 := (X0.cell 15).trans (cell15_of wx al c 0)
  have c16 := (X0.cell 16).trans (cell15_of wx al c 1)
  have c17 := (X0.cell 17).trans (cell15_of wx al c 2)
  have c18 := (X0.cell 18).trans (cell15_of wx al c 3)
  simp only [List.getElem?_cons_zero, List.getElem?_cons_succ] at c15 c16 c17 c18
  have c32 := (X0.cell 32).trans (cell32_of wx al c)
  have sx1 := X0.seg 1 (txv x.tx) (by simp [msgv, txv])
  have sx5 := X0.seg 5 (regv x.reg) (by simp [msgv, txv, regv])
  have sx7 := X0.seg 7 (bcells x.key) (by simp [msgv, txv, regv])
  have sx19 := X0.seg 19 (itemv x.item) (seg19_of wx al c)
  have d0 := (Y0.cell 0).trans (show (msgv y bl d)[0]? = some (.int .u8 y.kind) from rfl)
  have d4 := (Y0.cell 4).trans (show (msgv y bl d)[4]? = some (.int .u32 y.time) from rfl)
  have d15 := (Y0.cell 15).trans (cell15_of wy bl d 0)
  have d16 := (Y0.cell 16).trans (cell15_of wy bl d 1)
  have d17 := (Y0.cell 17).trans (cell15_of wy bl d 2)
  have d18 := (Y0.cell 18).trans (cell15_of wy bl d 3)
  simp only [List.getElem?_cons_zero, List.getElem?_cons_succ] at d15 d16 d17 d18
  have d32 := (Y0.cell 32).trans (cell32_of wy bl d)
  have sy1 := Y0.seg 1 (txv y.tx) (by simp [msgv, txv])
  have sy5 := Y0.seg 5 (regv y.reg) (by simp [msgv, txv, regv])
  have sy7 := Y0.seg 7 (bcells y.key) (by simp [msgv, txv, regv])
  have sy19 := Y0.seg 19 (itemv y.item) (seg19_of wy bl d)
  have hg1 := eqGuard_tx
  have hg2 := eqGuard_reg
  have hg3 := eqGuard_key
  have hg4 := eqGuard_item
  have hq1 : ∀ w, (binOp .eql 24 (.agg (txv x.tx).toArray) (.agg (txv y.tx).toArray)).run Tryz.prog w = .ok (.bool (decide (x.tx = y.tx))) w := fun w => eqlTx x.tx y.tx w
  have hq3 : ∀ w, (binOp .eql 26 (.agg (regv x.reg).toArray) (.agg (regv y.reg).toArray)).run Tryz.prog w = .ok (.bool (decide (x.reg = y.reg))) w := fun w => eqlReg x.reg y.reg w
  have hq4 := fun w => eqlKey x.key y.key wx.key wy.key w
  have hq9 := fun w => eqlItem x.item y.item wx.item wy.item w
  have kx : (bcells x.key).length = 8 := by rw [bcells_length, wx.key]
  have ky : (bcells y.key).length = 8 := by rw [bcells_length, wy.key]
  have ix := itemv_length wx.item
  have iy := itemv_length wy.item
  have HEQ := sameWrites_calls x.writes y.writes x.writes.length y.writes.length rfl rfl al bl c d wx.writes wy.writes (hra.keptNo KK) (hrb.keptNo KK) sx.many sy.many
  obtain ⟨b0, h0⟩ : ∃ b, ((x.kind : Int) == y.kind) = b := ⟨_, rfl⟩
  obtain ⟨b1, h1⟩ : ∃ b, (decide (x.tx = y.tx)) = b := ⟨_, rfl⟩
  obtain ⟨b2, h2⟩ : ∃ b, ((x.time : Int) == y.time) = b := ⟨_, rfl⟩
  obtain ⟨b3, h3⟩ : ∃ b, (decide (x.reg = y.reg)) = b := ⟨_, rfl⟩
  obtain ⟨b4, h4⟩ : ∃ b, (x.key == y.key) = b := ⟨_, rfl⟩
  obtain ⟨b5, h5⟩ : ∃ b, ((x.mode : Int) == y.mode) = b := ⟨_, rfl⟩
  obtain ⟨b6, h6⟩ : ∃ b, ((x.no : Int) == y.no) = b := ⟨_, rfl⟩
  obtain ⟨b7, h7⟩ : ∃ b, ((x.why : Int) == y.why) = b := ⟨_, rfl⟩
  obtain ⟨b8, h8⟩ : ∃ b, ((x.yes : Int) == y.yes) = b := ⟨_, rfl⟩
  obtain ⟨b9, h9⟩ : ∃ b, (decide (x.item = y.item)) = b := ⟨_, rfl⟩
  obtain ⟨b10, h10⟩ : ∃ b, (sameW x.writes y.writes) = b := ⟨_, rfl⟩
  have HS := Lib.hid (show sameM x y = (b0 && (b1 && (b2 && (b3 && (b4 && (b5 && (b6 && (b7 && (b8 && (b9 && (b10))))))))))) by rw [sameM_eq, h0, h1, h2, h3, h4, h5, h6, h7, h8, h9, h10])
  rw [h1] at hq1
  rw [h3] at hq3
  rw [h4] at hq4
  rw [h9] at hq9
  rw [h10] at HEQ
  have HEQ2 := Lib.hid HEQ
  clear h1 h3 h4 h9 h10 HEQ hra hrb sx sy wx wy X0 Y0
  cases b0
  case false =>
    go_enter Tryz.func26, Tryz.ntmps26
    simp only [List.append_eq, List.cons_append, List.nil_append]
    go_wp2_with (first
      | (with_reducible refine wpList_ld rfl 24 _ rfl Tryz.isAgg24 3 Tryz.sizeOf24 w.heap.size 1 rfl (txv x.tx) rfl sx1 ?_)
      | (with_reducible refine wpList_ld rfl 24 _ rfl Tryz.isAgg24 3 Tryz.sizeOf24 (w.heap.size + 1) 1 rfl (txv y.tx) rfl sy1 ?_)
      | (with_reducible refine wpList_ld rfl 26 _ rfl Tryz.isAgg26 2 Tryz.sizeOf26 w.heap.size 5 rfl (regv x.reg) rfl sx5 ?_)
      | (with_reducible refine wpList_ld rfl 26 _ rfl Tryz.isAgg26 2 Tryz.sizeOf26 (w.heap.size + 1) 5 rfl (regv y.reg) rfl sy5 ?_)
      | (with_reducible refine wpList_ld rfl 28 _ rfl Tryz.isAgg28 8 Tryz.sizeOf28 w.heap.size 7 rfl (bcells x.key) kx sx7 ?_)
      | (with_reducible refine wpList_ld rfl 28 _ rfl Tryz.isAgg28 8 Tryz.sizeOf28 (w.heap.size + 1) 7 rfl (bcells y.key) ky sy7 ?_)
      | (with_reducible refine wpList_ld rfl 32 _ rfl Tryz.isAgg32 13 Tryz.sizeOf32 w.heap.size 19 rfl (itemv x.item) ix sx19 ?_)
      | (with_reducible refine wpList_ld rfl 32 _ rfl Tryz.isAgg32 13 Tryz.sizeOf32 (w.heap.size + 1) 19 rfl (itemv y.item) iy sy19 ?_)
      | (go_at_call 61; refine HEQ2.out.mono ?_; rintro _ w2 ⟨rfl, k2⟩))
    go_ret
    exact ⟨by rw [HS.out]; rfl, KK⟩
  case true =>
  cases b1
  case false =>
    go_enter Tryz.func26, Tryz.ntmps26
    simp only [List.append_eq, List.cons_append, List.nil_append]
    go_wp2_with (first
      | (with_reducible refine wpList_ld rfl 24 _ rfl Tryz.isAgg24 3 Tryz.sizeOf24 w.heap.size 1 rfl (txv x.tx) rfl sx1 ?_)
      | (with_reducible refine wpList_ld rfl 24 _ rfl Tryz.isAgg24 3 Tryz.sizeOf24 (w.heap.size + 1) 1 rfl (txv y.tx) rfl sy1 ?_)
      | (with_reducible refine wpList_ld rfl 26 _ rfl Tryz.isAgg26 2 Tryz.sizeOf26 w.heap.size 5 rfl (regv x.reg) rfl sx5 ?_)
      | (with_reducible refine wpList_ld rfl 26 _ rfl Tryz.isAgg26 2 Tryz.sizeOf26 (w.heap.size + 1) 5 rfl (regv y.reg) rfl sy5 ?_)
      | (with_reducible refine wpList_ld rfl 28 _ rfl Tryz.isAgg28 8 Tryz.sizeOf28 w.heap.size 7 rfl (bcells x.key) kx sx7 ?_)
      | (with_reducible refine wpList_ld rfl 28 _ rfl Tryz.isAgg28 8 Tryz.sizeOf28 (w.heap.size + 1) 7 rfl (bcells y.key) ky sy7 ?_)
      | (with_reducible refine wpList_ld rfl 32 _ rfl Tryz.isAgg32 13 Tryz.sizeOf32 w.heap.size 19 rfl (itemv x.item) ix sx19 ?_)
      | (with_reducible refine wpList_ld rfl 32 _ rfl Tryz.isAgg32 13 Tryz.sizeOf32 (w.heap.size + 1) 19 rfl (itemv y.item) iy sy19 ?_)
      | (go_at_call 61; refine HEQ2.out.mono ?_; rintro _ w2 ⟨rfl, k2⟩))
    go_ret
    exact ⟨by rw [HS.out]; rfl, KK⟩
  case true =>
  cases b2
  case false =>
    go_enter Tryz.func26, Tryz.ntmps26
    simp only [List.append_eq, List.cons_append, List.nil_append]
    go_wp2_with (first
      | (with_reducible refine wpList_ld rfl 24 _ rfl Tryz.isAgg24 3 Tryz.sizeOf24 w.heap.size 1 rfl (txv x.tx) rfl sx1 ?_)
      | (with_reducible refine wpList_ld rfl 24 _ rfl Tryz.isAgg24 3 Tryz.sizeOf24 (w.heap.size + 1) 1 rfl (txv y.tx) rfl sy1 ?_)
      | (with_reducible refine wpList_ld rfl 26 _ rfl Tryz.isAgg26 2 Tryz.sizeOf26 w.heap.size 5 rfl (regv x.reg) rfl sx5 ?_)
      | (with_reducible refine wpList_ld rfl 26 _ rfl Tryz.isAgg26 2 Tryz.sizeOf26 (w.heap.size + 1) 5 rfl (regv y.reg) rfl sy5 ?_)
      | (with_reducible refine wpList_ld rfl 28 _ rfl Tryz.isAgg28 8 Tryz.sizeOf28 w.heap.size 7 rfl (bcells x.key) kx sx7 ?_)
      | (with_reducible refine wpList_ld rfl 28 _ rfl Tryz.isAgg28 8 Tryz.sizeOf28 (w.heap.size + 1) 7 rfl (bcells y.key) ky sy7 ?_)
      | (with_reducible refine wpList_ld rfl 32 _ rfl Tryz.isAgg32 13 Tryz.sizeOf32 w.heap.size 19 rfl (itemv x.item) ix sx19 ?_)
      | (with_reducible refine wpList_ld rfl 32 _ rfl Tryz.isAgg32 13 Tryz.sizeOf32 (w.heap.size + 1) 19 rfl (itemv y.item) iy sy19 ?_)
      | (go_at_call 61; refine HEQ2.out.mono ?_; rintro _ w2 ⟨rfl, k2⟩))
    go_ret
    exact ⟨by rw [HS.out]; rfl, KK⟩
  case true =>
  cases b3
  case false =>
    go_enter Tryz.func26, Tryz.ntmps26
    simp only [List.append_eq, List.cons_append, List.nil_append]
    go_wp2_with (first
      | (with_reducible refine wpList_ld rfl 24 _ rfl Tryz.isAgg24 3 Tryz.sizeOf24 w.heap.size 1 rfl (txv x.tx) rfl sx1 ?_)
      | (with_reducible refine wpList_ld rfl 24 _ rfl Tryz.isAgg24 3 Tryz.sizeOf24 (w.heap.size + 1) 1 rfl (txv y.tx) rfl sy1 ?_)
      | (with_reducible refine wpList_ld rfl 26 _ rfl Tryz.isAgg26 2 Tryz.sizeOf26 w.heap.size 5 rfl (regv x.reg) rfl sx5 ?_)
      | (with_reducible refine wpList_ld rfl 26 _ rfl Tryz.isAgg26 2 Tryz.sizeOf26 (w.heap.size + 1) 5 rfl (regv y.reg) rfl sy5 ?_)
      | (with_reducible refine wpList_ld rfl 28 _ rfl Tryz.isAgg28 8 Tryz.sizeOf28 w.heap.size 7 rfl (bcells x.key) kx sx7 ?_)
      | (with_reducible refine wpList_ld rfl 28 _ rfl Tryz.isAgg28 8 Tryz.sizeOf28 (w.heap.size + 1) 7 rfl (bcells y.key) ky sy7 ?_)
      | (with_reducible refine wpList_ld rfl 32 _ rfl Tryz.isAgg32 13 Tryz.sizeOf32 w.heap.size 19 rfl (itemv x.item) ix sx19 ?_)
      | (with_reducible refine wpList_ld rfl 32 _ rfl Tryz.isAgg32 13 Tryz.sizeOf32 (w.heap.size + 1) 19 rfl (itemv y.item) iy sy19 ?_)
      | (go_at_call 61; refine HEQ2.out.mono ?_; rintro _ w2 ⟨rfl, k2⟩))
    go_ret
    exact ⟨by rw [HS.out]; rfl, KK⟩
  case true =>
  cases b4
  case false =>
    go_enter Tryz.func26, Tryz.ntmps26
    simp only [List.append_eq, List.cons_append, List.nil_append]
    go_wp2_with (first
      | (with_reducible refine wpList_ld rfl 24 _ rfl Tryz.isAgg24 3 Tryz.sizeOf24 w.heap.size 1 rfl (txv x.tx) rfl sx1 ?_)
      | (with_reducible refine wpList_ld rfl 24 _ rfl Tryz.isAgg24 3 Tryz.sizeOf24 (w.heap.size + 1) 1 rfl (txv y.tx) rfl sy1 ?_)
      | (with_reducible refine wpList_ld rfl 26 _ rfl Tryz.isAgg26 2 Tryz.sizeOf26 w.heap.size 5 rfl (regv x.reg) rfl sx5 ?_)
      | (with_reducible refine wpList_ld rfl 26 _ rfl Tryz.isAgg26 2 Tryz.sizeOf26 (w.heap.size + 1) 5 rfl (regv y.reg) rfl sy5 ?_)
      | (with_reducible refine wpList_ld rfl 28 _ rfl Tryz.isAgg28 8 Tryz.sizeOf28 w.heap.size 7 rfl (bcells x.key) kx sx7 ?_)
      | (with_reducible refine wpList_ld rfl 28 _ rfl Tryz.isAgg28 8 Tryz.sizeOf28 (w.heap.size + 1) 7 rfl (bcells y.key) ky sy7 ?_)
      | (with_reducible refine wpList_ld rfl 32 _ rfl Tryz.isAgg32 13 Tryz.sizeOf32 w.heap.size 19 rfl (itemv x.item) ix sx19 ?_)
      | (with_reducible refine wpList_ld rfl 32 _ rfl Tryz.isAgg32 13 Tryz.sizeOf32 (w.heap.size + 1) 19 rfl (itemv y.item) iy sy19 ?_)
      | (go_at_call 61; refine HEQ2.out.mono ?_; rintro _ w2 ⟨rfl, k2⟩))
    go_ret
    exact ⟨by rw [HS.out]; rfl, KK⟩
  case true =>
  cases b5
  case false =>
    go_enter Tryz.func26, Tryz.ntmps26
    simp only [List.append_eq, List.cons_append, List.nil_append]
    go_wp2_with (first
      | (with_reducible refine wpList_ld rfl 24 _ rfl Tryz.isAgg24 3 Tryz.sizeOf24 w.heap.size 1 rfl (txv x.tx) rfl sx1 ?_)
      | (with_reducible refine wpList_ld rfl 24 _ rfl Tryz.isAgg24 3 Tryz.sizeOf24 (w.heap.size + 1) 1 rfl (txv y.tx) rfl sy1 ?_)
      | (with_reducible refine wpList_ld rfl 26 _ rfl Tryz.isAgg26 2 Tryz.sizeOf26 w.heap.size 5 rfl (regv x.reg) rfl sx5 ?_)
      | (with_reducible refine wpList_ld rfl 26 _ rfl Tryz.isAgg26 2 Tryz.sizeOf26 (w.heap.size + 1) 5 rfl (regv y.reg) rfl sy5 ?_)
      | (with_reducible refine wpList_ld rfl 28 _ rfl Tryz.isAgg28 8 Tryz.sizeOf28 w.heap.size 7 rfl (bcells x.key) kx sx7 ?_)
      | (with_reducible refine wpList_ld rfl 28 _ rfl Tryz.isAgg28 8 Tryz.sizeOf28 (w.heap.size + 1) 7 rfl (bcells y.key) ky sy7 ?_)
      | (with_reducible refine wpList_ld rfl 32 _ rfl Tryz.isAgg32 13 Tryz.sizeOf32 w.heap.size 19 rfl (itemv x.item) ix sx19 ?_)
      | (with_reducible refine wpList_ld rfl 32 _ rfl Tryz.isAgg32 13 Tryz.sizeOf32 (w.heap.size + 1) 19 rfl (itemv y.item) iy sy19 ?_)
      | (go_at_call 61; refine HEQ2.out.mono ?_; rintro _ w2 ⟨rfl, k2⟩))
    go_ret
    exact ⟨by rw [HS.out]; rfl, KK⟩
  case true =>
  cases b6
  case false =>
    go_enter Tryz.func26, Tryz.ntmps26
    simp only [List.append_eq, List.cons_append, List.nil_append]
    go_wp2_with (first
      | (with_reducible refine wpList_ld rfl 24 _ rfl Tryz.isAgg24 3 Tryz.sizeOf24 w.heap.size 1 rfl (txv x.tx) rfl sx1 ?_)
      | (with_reducible refine wpList_ld rfl 24 _ rfl Tryz.isAgg24 3 Tryz.sizeOf24 (w.heap.size + 1) 1 rfl (txv y.tx) rfl sy1 ?_)
      | (with_reducible refine wpList_ld rfl 26 _ rfl Tryz.isAgg26 2 Tryz.sizeOf26 w.heap.size 5 rfl (regv x.reg) rfl sx5 ?_)
      | (with_reducible refine wpList_ld rfl 26 _ rfl Tryz.isAgg26 2 Tryz.sizeOf26 (w.heap.size + 1) 5 rfl (regv y.reg) rfl sy5 ?_)
      | (with_reducible refine wpList_ld rfl 28 _ rfl Tryz.isAgg28 8 Tryz.sizeOf28 w.heap.size 7 rfl (bcells x.key) kx sx7 ?_)
      | (with_reducible refine wpList_ld rfl 28 _ rfl Tryz.isAgg28 8 Tryz.sizeOf28 (w.heap.size + 1) 7 rfl (bcells y.key) ky sy7 ?_)
      | (with_reducible refine wpList_ld rfl 32 _ rfl Tryz.isAgg32 13 Tryz.sizeOf32 w.heap.size 19 rfl (itemv x.item) ix sx19 ?_)
      | (with_reducible refine wpList_ld rfl 32 _ rfl Tryz.isAgg32 13 Tryz.sizeOf32 (w.heap.size + 1) 19 rfl (itemv y.item) iy sy19 ?_)
      | (go_at_call 61; refine HEQ2.out.mono ?_; rintro _ w2 ⟨rfl, k2⟩))
    go_ret
    exact ⟨by rw [HS.out]; rfl, KK⟩
  case true =>
  cases b7
  case false =>
    go_enter Tryz.func26, Tryz.ntmps26
    simp only [List.append_eq, List.cons_append, List.nil_append]
    go_wp2_with (first
      | (with_reducible refine wpList_ld rfl 24 _ rfl Tryz.isAgg24 3 Tryz.sizeOf24 w.heap.size 1 rfl (txv x.tx) rfl sx1 ?_)
      | (with_reducible refine wpList_ld rfl 24 _ rfl Tryz.isAgg24 3 Tryz.sizeOf24 (w.heap.size + 1) 1 rfl (txv y.tx) rfl sy1 ?_)
      | (with_reducible refine wpList_ld rfl 26 _ rfl Tryz.isAgg26 2 Tryz.sizeOf26 w.heap.size 5 rfl (regv x.reg) rfl sx5 ?_)
      | (with_reducible refine wpList_ld rfl 26 _ rfl Tryz.isAgg26 2 Tryz.sizeOf26 (w.heap.size + 1) 5 rfl (regv y.reg) rfl sy5 ?_)
      | (with_reducible refine wpList_ld rfl 28 _ rfl Tryz.isAgg28 8 Tryz.sizeOf28 w.heap.size 7 rfl (bcells x.key) kx sx7 ?_)
      | (with_reducible refine wpList_ld rfl 28 _ rfl Tryz.isAgg28 8 Tryz.sizeOf28 (w.heap.size + 1) 7 rfl (bcells y.key) ky sy7 ?_)
      | (with_reducible refine wpList_ld rfl 32 _ rfl Tryz.isAgg32 13 Tryz.sizeOf32 w.heap.size 19 rfl (itemv x.item) ix sx19 ?_)
      | (with_reducible refine wpList_ld rfl 32 _ rfl Tryz.isAgg32 13 Tryz.sizeOf32 (w.heap.size + 1) 19 rfl (itemv y.item) iy sy19 ?_)
      | (go_at_call 61; refine HEQ2.out.mono ?_; rintro _ w2 ⟨rfl, k2⟩))
    go_ret
    exact ⟨by rw [HS.out]; rfl, KK⟩
  case true =>
  cases b8
  case false =>
    go_enter Tryz.func26, Tryz.ntmps26
    simp only [List.append_eq, List.cons_append, List.nil_append]
    go_wp2_with (first
      | (with_reducible refine wpList_ld rfl 24 _ rfl Tryz.isAgg24 3 Tryz.sizeOf24 w.heap.size 1 rfl (txv x.tx) rfl sx1 ?_)
      | (with_reducible refine wpList_ld rfl 24 _ rfl Tryz.isAgg24 3 Tryz.sizeOf24 (w.heap.size + 1) 1 rfl (txv y.tx) rfl sy1 ?_)
      | (with_reducible refine wpList_ld rfl 26 _ rfl Tryz.isAgg26 2 Tryz.sizeOf26 w.heap.size 5 rfl (regv x.reg) rfl sx5 ?_)
      | (with_reducible refine wpList_ld rfl 26 _ rfl Tryz.isAgg26 2 Tryz.sizeOf26 (w.heap.size + 1) 5 rfl (regv y.reg) rfl sy5 ?_)
      | (with_reducible refine wpList_ld rfl 28 _ rfl Tryz.isAgg28 8 Tryz.sizeOf28 w.heap.size 7 rfl (bcells x.key) kx sx7 ?_)
      | (with_reducible refine wpList_ld rfl 28 _ rfl Tryz.isAgg28 8 Tryz.sizeOf28 (w.heap.size + 1) 7 rfl (bcells y.key) ky sy7 ?_)
      | (with_reducible refine wpList_ld rfl 32 _ rfl Tryz.isAgg32 13 Tryz.sizeOf32 w.heap.size 19 rfl (itemv x.item) ix sx19 ?_)
      | (with_reducible refine wpList_ld rfl 32 _ rfl Tryz.isAgg32 13 Tryz.sizeOf32 (w.heap.size + 1) 19 rfl (itemv y.item) iy sy19 ?_)
      | (go_at_call 61; refine HEQ2.out.mono ?_; rintro _ w2 ⟨rfl, k2⟩))
    go_ret
    exact ⟨by rw [HS.out]; rfl, KK⟩
  case true =>
  cases b9
  case false =>
    go_enter Tryz.func26, Tryz.ntmps26
    simp only [List.append_eq, List.cons_append, List.nil_append]
    go_wp2_with (first
      | (with_reducible refine wpList_ld rfl 24 _ rfl Tryz.isAgg24 3 Tryz.sizeOf24 w.heap.size 1 rfl (txv x.tx) rfl sx1 ?_)
      | (with_reducible refine wpList_ld rfl 24 _ rfl Tryz.isAgg24 3 Tryz.sizeOf24 (w.heap.size + 1) 1 rfl (txv y.tx) rfl sy1 ?_)
      | (with_reducible refine wpList_ld rfl 26 _ rfl Tryz.isAgg26 2 Tryz.sizeOf26 w.heap.size 5 rfl (regv x.reg) rfl sx5 ?_)
      | (with_reducible refine wpList_ld rfl 26 _ rfl Tryz.isAgg26 2 Tryz.sizeOf26 (w.heap.size + 1) 5 rfl (regv y.reg) rfl sy5 ?_)
      | (with_reducible refine wpList_ld rfl 28 _ rfl Tryz.isAgg28 8 Tryz.sizeOf28 w.heap.size 7 rfl (bcells x.key) kx sx7 ?_)
      | (with_reducible refine wpList_ld rfl 28 _ rfl Tryz.isAgg28 8 Tryz.sizeOf28 (w.heap.size + 1) 7 rfl (bcells y.key) ky sy7 ?_)
      | (with_reducible refine wpList_ld rfl 32 _ rfl Tryz.isAgg32 13 Tryz.sizeOf32 w.heap.size 19 rfl (itemv x.item) ix sx19 ?_)
      | (with_reducible refine wpList_ld rfl 32 _ rfl Tryz.isAgg32 13 Tryz.sizeOf32 (w.heap.size + 1) 19 rfl (itemv y.item) iy sy19 ?_)
      | (go_at_call 61; refine HEQ2.out.mono ?_; rintro _ w2 ⟨rfl, k2⟩))
    go_ret
    exact ⟨by rw [HS.out]; rfl, KK⟩
  case true =>
  go_enter Tryz.func26, Tryz.ntmps26
  simp only [List.append_eq, List.cons_append, List.nil_append]
  go_wp2_with (first
    | (with_reducible refine wpList_ld rfl 24 _ rfl Tryz.isAgg24 3 Tryz.sizeOf24 w.heap.size 1 rfl (txv x.tx) rfl sx1 ?_)
    | (with_reducible refine wpList_ld rfl 24 _ rfl Tryz.isAgg24 3 Tryz.sizeOf24 (w.heap.size + 1) 1 rfl (txv y.tx) rfl sy1 ?_)
    | (with_reducible refine wpList_ld rfl 26 _ rfl Tryz.isAgg26 2 Tryz.sizeOf26 w.heap.size 5 rfl (regv x.reg) rfl sx5 ?_)
    | (with_reducible refine wpList_ld rfl 26 _ rfl Tryz.isAgg26 2 Tryz.sizeOf26 (w.heap.size + 1) 5 rfl (regv y.reg) rfl sy5 ?_)
    | (with_reducible refine wpList_ld rfl 28 _ rfl Tryz.isAgg28 8 Tryz.sizeOf28 w.heap.size 7 rfl (bcells x.key) kx sx7 ?_)
    | (with_reducible refine wpList_ld rfl 28 _ rfl Tryz.isAgg28 8 Tryz.sizeOf28 (w.heap.size + 1) 7 rfl (bcells y.key) ky sy7 ?_)
    | (with_reducible refine wpList_ld rfl 32 _ rfl Tryz.isAgg32 13 Tryz.sizeOf32 w.heap.size 19 rfl (itemv x.item) ix sx19 ?_)
    | (with_reducible refine wpList_ld rfl 32 _ rfl Tryz.isAgg32 13 Tryz.sizeOf32 (w.heap.size + 1) 19 rfl (itemv y.item) iy sy19 ?_)
    | (go_at_call 61; refine HEQ2.out.mono ?_; rintro _ w2 ⟨rfl, k2⟩))
  go_ret
  exact ⟨by rw [HS.out]; rfl, KK.trans k2 fun _ _ h => h⟩

set_option maxRecDepth 100000 in
set_option maxHeartbeats 4000000 in
theorem refRSame_calls (x y : PRec) (xw xm yw ym : Option Addr) (cw cm dw dm : Nat) (wx : x.Wf) (wy : y.Wf) (sx : x.Sm) (sy : y.Sm) (hxw : Rd w xw (pwsv x.writes)) (hxm : Rd w xm (ucells x.missing)) (hyw : Rd w yw (pwsv y.writes)) (hym : Rd w ym (ucells y.missing)) :
    Calls Tryz.prog 30 #[.agg (recv x xw cw xm cm).toArray, .agg (recv y yw dw ym dm).toArray] w fun e w' => e = .returned (.bool (sameR x y)) ∧ Kept No w w' := by
  have X0 := (Blk.new w 50 (recv x xw cw xm cm)).alloc (.cells (recv y yw dw ym dm).toArray 50)
  have Y0 := Blk.new' (w := w.alloc (.cells (recv x xw cw xm cm).toArray 50)) (g := w.heap.size + 1) (by rw [World.size_alloc]) 50 (recv y yw dw ym dm)
  have KK := ((Kept.refl No w).alloc (.cells (recv x xw cw xm cm).toArray 50)).alloc (.cells (recv y yw dw ym dm).toArray 50)
  have c0 := (X0.cell 0).trans (show (recv x xw cw xm cm)[0]? = some (.int .u8 x.kind) from rfl)
  have c1 := (X0.cell 1).trans (show (recv x xw cw xm cm)[1]? = some (.int .u32 x.n) from rfl)
  have c7 := (X0.cell 7).trans (show (recv x xw cw xm cm)[7]? = some (.int .u64 x.members) from rfl)
  have c8 := (X0.cell 8).trans (show (recv x xw cw xm cm)[8]? = some (.slice xw x.writes.length cw) from rfl)
  have sx2 := X0.seg 2 (txv x.tx) (by simp [recv, txv])
  have sx5 := X0.seg 5 (regv x.reg) (by simp [recv, txv, regv])
  have d0 := (Y0.cell 0).trans (show (recv y yw dw ym dm)[0]? = some (.int .u8 y.kind) from rfl)
  have d1 := (Y0.cell 1).trans (show (recv y yw dw ym dm)[1]? = some (.int .u32 y.n) from rfl)
  have d7 := (Y0.cell 7).trans (show (recv y yw dw ym dm)[7]? = some (.int .u64 y.members) from rfl)
  have d8 := (Y0.cell 8).trans (show (recv y yw dw ym dm)[8]? = some (.slice yw y.writes.length dw) from rfl)
  have sy2 := Y0.seg 2 (txv y.tx) (by simp [recv, txv])
  have sy5 := Y0.seg 5 (regv y.reg) (by simp [recv, txv, regv])
  have hg1 := eqGuard_tx
  have hg2 := eqGuard_reg
  have hg3 := eqGuard_key
  have hg4 := eqGuard_item
  have hq2 : ∀ w, (binOp .eql 24 (.agg (txv x.tx).toArray) (.agg (txv y.tx).toArray)).run Tryz.prog w = .ok (.bool (decide (x.tx = y.tx))) w := fun w => eqlTx x.tx y.tx w
  have hq3 : ∀ w, (binOp .eql 26 (.agg (regv x.reg).toArray) (.agg (regv y.reg).toArray)).run Tryz.prog w = .ok (.bool (decide (x.reg = y.reg))) w := fun w => eqlReg x.reg y.reg w
  have hq7 := fun w => eqlKey x.key y.key wx.key wy.key w
  have hq8 := fun w => eqlItem x.item y.item wx.item wy.item w
  have kx : (bcells x.key).length = 8 := by rw [bcells_length, wx.key]
  have ky : (bcells y.key).length = 8 := by rw [bcells_length, wy.key]
  have ix := itemv_length wx.item
  have iy := itemv_length wy.item
  have Ex10 := Lib.hid (fun (W : World) (k : Kept No _ W) => (X0.kept k fun h => h).seg 10 (bcells x.key) (by simp [recv, txv, regv]))
  have Ex18 := Lib.hid (fun (W : World) (k : Kept No _ W) => (X0.kept k fun h => h).seg 18 (itemv x.item) (by simp [recv, txv, regv, ix, wx.key]; exact List.take_of_length_le (by omega)))
  have Ex9 := Lib.hid (fun (W : World) (k : Kept No _ W) => ((X0.kept k fun h => h).cell 9).trans (show (recv x xw cw xm cm)[9]? = some (.slice xm x.missing.length cm) from rfl))
  have Ey10 := Lib.hid (fun (W : World) (k : Kept No _ W) => (Y0.kept k fun h => h).seg 10 (bcells y.key) (by simp [recv, txv, regv]))
  have Ey18 := Lib.hid (fun (W : World) (k : Kept No _ W) => (Y0.kept k fun h => h).seg 18 (itemv y.item) (by simp [recv, txv, regv, iy, wy.key]; exact List.take_of_length_le (by omega)))
  have Ey9 := Lib.hid (fun (W : World) (k : Kept No _ W) => ((Y0.kept k fun h => h).cell 9).trans (show (recv y yw dw ym dm)[9]? = some (.slice ym y.missing.length dm) from rfl))
  have HEQ := sameWrites_calls x.writes y.writes x.writes.length y.writes.length rfl rfl xw yw cw dw wx.writes wy.writes (hxw.keptNo KK) (hyw.keptNo KK) sx.many sy.many
  have HEU := fun (W : World) (k : Kept No w W) => sets_calls (w := W) x.missing y.missing x.missing.length y.missing.length rfl rfl xm ym cm dm (hxm.keptNo k) (hym.keptNo k) sx.miss sy.miss
  obtain ⟨b0, h0⟩ : ∃ b, ((x.kind : Int) == y.kind) = b := ⟨_, rfl⟩
  obtain ⟨b1, h1⟩ : ∃ b, ((x.n : Int) == y.n) = b := ⟨_, rfl⟩
  obtain ⟨b2, h2⟩ : ∃ b, (decide (x.tx = y.tx)) = b := ⟨_, rfl⟩
  obtain ⟨b3, h3⟩ : ∃ b, (decide (x.reg = y.reg)) = b := ⟨_, rfl⟩
  obtain ⟨b4, h4⟩ : ∃ b, ((x.members : Int) == y.members) = b := ⟨_, rfl⟩
  obtain ⟨b5, h5⟩ : ∃ b, (sameW x.writes y.writes) = b := ⟨_, rfl⟩
  obtain ⟨b6, h6⟩ : ∃ b, (x.missing == y.missing) = b := ⟨_, rfl⟩
  obtain ⟨b7, h7⟩ : ∃ b, (x.key == y.key) = b := ⟨_, rfl⟩
  obtain ⟨b8, h8⟩ : ∃ b, (decide (x.item = y.item)) = b := ⟨_, rfl⟩
  have HS := Lib.hid (show sameR x y = (b0 && (b1 && (b2 && (b3 && (b4 && (b5 && (b6 && (b7 && (b8))))))))) by rw [sameR_eq, h0, h1, h2, h3, h4, h5, h6, h7, h8])
  rw [h2] at hq2
  rw [h3] at hq3
  rw [h7] at hq7
  rw [h8] at hq8
  rw [h5] at HEQ
  have HEU2 : Hid (∀ W, Kept No w W → Calls Tryz.prog 69 #[.slice xm x.missing.length cm, .slice ym y.missing.length dm] W fun e w' => e = .returned (.bool b6) ∧ Kept No W w') := Lib.hid fun W k => by have := HEU W k; rw [h6] at this; exact this
  have HEQ2 := Lib.hid HEQ
  clear h2 h3 h5 h6 h7 h8 HEQ HEU hxw hxm hyw hym sx sy wx wy X0 Y0
  cases b0
  case false =>
    go_enter Tryz.func30, Tryz.ntmps30
    go_wp2_with (first
      | (with_reducible refine wpList_ld rfl 24 _ rfl Tryz.isAgg24 3 Tryz.sizeOf24 w.heap.size 2 rfl (txv x.tx) rfl sx2 ?_)
      | (with_reducible refine wpList_ld rfl 24 _ rfl Tryz.isAgg24 3 Tryz.sizeOf24 (w.heap.size + 1) 2 rfl (txv y.tx) rfl sy2 ?_)
      | (with_reducible refine wpList_ld rfl 26 _ rfl Tryz.isAgg26 2 Tryz.sizeOf26 w.heap.size 5 rfl (regv x.reg) rfl sx5 ?_)
      | (with_reducible refine wpList_ld rfl 26 _ rfl Tryz.isAgg26 2 Tryz.sizeOf26 (w.heap.size + 1) 5 rfl (regv y.reg) rfl sy5 ?_)
      | (go_at_call 61; refine HEQ2.out.mono ?_; rintro _ w2 ⟨rfl, k2⟩; have K2 := KK.trans k2 (fun _ _ h => h); have c9 := Ex9.out _ k2; have d9 := Ey9.out _ k2)
      | (go_at_call 69; refine (HEU2.out _ K2).mono ?_; rintro _ w3 ⟨rfl, k3⟩; have k23 := k2.trans k3 (fun _ _ h => h); have sx10 := Ex10.out _ k23; have sy10 := Ey10.out _ k23; have sx18 := Ex18.out _ k23; have sy18 := Ey18.out _ k23)
      | (with_reducible refine wpList_ld rfl 28 _ rfl Tryz.isAgg28 8 Tryz.sizeOf28 w.heap.size 10 rfl (bcells x.key) kx sx10 ?_)
      | (with_reducible refine wpList_ld rfl 28 _ rfl Tryz.isAgg28 8 Tryz.sizeOf28 (w.heap.size + 1) 10 rfl (bcells y.key) ky sy10 ?_)
      | (with_reducible refine wpList_ld rfl 32 _ rfl Tryz.isAgg32 13 Tryz.sizeOf32 w.heap.size 18 rfl (itemv x.item) ix sx18 ?_)
      | (with_reducible refine wpList_ld rfl 32 _ rfl Tryz.isAgg32 13 Tryz.sizeOf32 (w.heap.size + 1) 18 rfl (itemv y.item) iy sy18 ?_))
    go_ret
    exact ⟨by rw [HS.out]; rfl, KK⟩
  case true =>
  cases b1
  case false =>
    go_enter Tryz.func30, Tryz.ntmps30
    go_wp2_with (first
      | (with_reducible refine wpList_ld rfl 24 _ rfl Tryz.isAgg24 3 Tryz.sizeOf24 w.heap.size 2 rfl (txv x.tx) rfl sx2 ?_)
      | (with_reducible refine wpList_ld rfl 24 _ rfl Tryz.isAgg24 3 Tryz.sizeOf24 (w.heap.size + 1) 2 rfl (txv y.tx) rfl sy2 ?_)
      | (with_reducible refine wpList_ld rfl 26 _ rfl Tryz.isAgg26 2 Tryz.sizeOf26 w.heap.size 5 rfl (regv x.reg) rfl sx5 ?_)
      | (with_reducible refine wpList_ld rfl 26 _ rfl Tryz.isAgg26 2 Tryz.sizeOf26 (w.heap.size + 1) 5 rfl (regv y.reg) rfl sy5 ?_)
      | (go_at_call 61; refine HEQ2.out.mono ?_; rintro _ w2 ⟨rfl, k2⟩; have K2 := KK.trans k2 (fun _ _ h => h); have c9 := Ex9.out _ k2; have d9 := Ey9.out _ k2)
      | (go_at_call 69; refine (HEU2.out _ K2).mono ?_; rintro _ w3 ⟨rfl, k3⟩; have k23 := k2.trans k3 (fun _ _ h => h); have sx10 := Ex10.out _ k23; have sy10 := Ey10.out _ k23; have sx18 := Ex18.out _ k23; have sy18 := Ey18.out _ k23)
      | (with_reducible refine wpList_ld rfl 28 _ rfl Tryz.isAgg28 8 Tryz.sizeOf28 w.heap.size 10 rfl (bcells x.key) kx sx10 ?_)
      | (with_reducible refine wpList_ld rfl 28 _ rfl Tryz.isAgg28 8 Tryz.sizeOf28 (w.heap.size + 1) 10 rfl (bcells y.key) ky sy10 ?_)
      | (with_reducible refine wpList_ld rfl 32 _ rfl Tryz.isAgg32 13 Tryz.sizeOf32 w.heap.size 18 rfl (itemv x.item) ix sx18 ?_)
      | (with_reducible refine wpList_ld rfl 32 _ rfl Tryz.isAgg32 13 Tryz.sizeOf32 (w.heap.size + 1) 18 rfl (itemv y.item) iy sy18 ?_))
    go_ret
    exact ⟨by rw [HS.out]; rfl, KK⟩
  case true =>
  cases b2
  case false =>
    go_enter Tryz.func30, Tryz.ntmps30
    go_wp2_with (first
      | (with_reducible refine wpList_ld rfl 24 _ rfl Tryz.isAgg24 3 Tryz.sizeOf24 w.heap.size 2 rfl (txv x.tx) rfl sx2 ?_)
      | (with_reducible refine wpList_ld rfl 24 _ rfl Tryz.isAgg24 3 Tryz.sizeOf24 (w.heap.size + 1) 2 rfl (txv y.tx) rfl sy2 ?_)
      | (with_reducible refine wpList_ld rfl 26 _ rfl Tryz.isAgg26 2 Tryz.sizeOf26 w.heap.size 5 rfl (regv x.reg) rfl sx5 ?_)
      | (with_reducible refine wpList_ld rfl 26 _ rfl Tryz.isAgg26 2 Tryz.sizeOf26 (w.heap.size + 1) 5 rfl (regv y.reg) rfl sy5 ?_)
      | (go_at_call 61; refine HEQ2.out.mono ?_; rintro _ w2 ⟨rfl, k2⟩; have K2 := KK.trans k2 (fun _ _ h => h); have c9 := Ex9.out _ k2; have d9 := Ey9.out _ k2)
      | (go_at_call 69; refine (HEU2.out _ K2).mono ?_; rintro _ w3 ⟨rfl, k3⟩; have k23 := k2.trans k3 (fun _ _ h => h); have sx10 := Ex10.out _ k23; have sy10 := Ey10.out _ k23; have sx18 := Ex18.out _ k23; have sy18 := Ey18.out _ k23)
      | (with_reducible refine wpList_ld rfl 28 _ rfl Tryz.isAgg28 8 Tryz.sizeOf28 w.heap.size 10 rfl (bcells x.key) kx sx10 ?_)
      | (with_reducible refine wpList_ld rfl 28 _ rfl Tryz.isAgg28 8 Tryz.sizeOf28 (w.heap.size + 1) 10 rfl (bcells y.key) ky sy10 ?_)
      | (with_reducible refine wpList_ld rfl 32 _ rfl Tryz.isAgg32 13 Tryz.sizeOf32 w.heap.size 18 rfl (itemv x.item) ix sx18 ?_)
      | (with_reducible refine wpList_ld rfl 32 _ rfl Tryz.isAgg32 13 Tryz.sizeOf32 (w.heap.size + 1) 18 rfl (itemv y.item) iy sy18 ?_))
    go_ret
    exact ⟨by rw [HS.out]; rfl, KK⟩
  case true =>
  cases b3
  case false =>
    go_enter Tryz.func30, Tryz.ntmps30
    go_wp2_with (first
      | (with_reducible refine wpList_ld rfl 24 _ rfl Tryz.isAgg24 3 Tryz.sizeOf24 w.heap.size 2 rfl (txv x.tx) rfl sx2 ?_)
      | (with_reducible refine wpList_ld rfl 24 _ rfl Tryz.isAgg24 3 Tryz.sizeOf24 (w.heap.size + 1) 2 rfl (txv y.tx) rfl sy2 ?_)
      | (with_reducible refine wpList_ld rfl 26 _ rfl Tryz.isAgg26 2 Tryz.sizeOf26 w.heap.size 5 rfl (regv x.reg) rfl sx5 ?_)
      | (with_reducible refine wpList_ld rfl 26 _ rfl Tryz.isAgg26 2 Tryz.sizeOf26 (w.heap.size + 1) 5 rfl (regv y.reg) rfl sy5 ?_)
      | (go_at_call 61; refine HEQ2.out.mono ?_; rintro _ w2 ⟨rfl, k2⟩; have K2 := KK.trans k2 (fun _ _ h => h); have c9 := Ex9.out _ k2; have d9 := Ey9.out _ k2)
      | (go_at_call 69; refine (HEU2.out _ K2).mono ?_; rintro _ w3 ⟨rfl, k3⟩; have k23 := k2.trans k3 (fun _ _ h => h); have sx10 := Ex10.out _ k23; have sy10 := Ey10.out _ k23; have sx18 := Ex18.out _ k23; have sy18 := Ey18.out _ k23)
      | (with_reducible refine wpList_ld rfl 28 _ rfl Tryz.isAgg28 8 Tryz.sizeOf28 w.heap.size 10 rfl (bcells x.key) kx sx10 ?_)
      | (with_reducible refine wpList_ld rfl 28 _ rfl Tryz.isAgg28 8 Tryz.sizeOf28 (w.heap.size + 1) 10 rfl (bcells y.key) ky sy10 ?_)
      | (with_reducible refine wpList_ld rfl 32 _ rfl Tryz.isAgg32 13 Tryz.sizeOf32 w.heap.size 18 rfl (itemv x.item) ix sx18 ?_)
      | (with_reducible refine wpList_ld rfl 32 _ rfl Tryz.isAgg32 13 Tryz.sizeOf32 (w.heap.size + 1) 18 rfl (itemv y.item) iy sy18 ?_))
    go_ret
    exact ⟨by rw [HS.out]; rfl, KK⟩
  case true =>
  cases b4
  case false =>
    go_enter Tryz.func30, Tryz.ntmps30
    go_wp2_with (first
      | (with_reducible refine wpList_ld rfl 24 _ rfl Tryz.isAgg24 3 Tryz.sizeOf24 w.heap.size 2 rfl (txv x.tx) rfl sx2 ?_)
      | (with_reducible refine wpList_ld rfl 24 _ rfl Tryz.isAgg24 3 Tryz.sizeOf24 (w.heap.size + 1) 2 rfl (txv y.tx) rfl sy2 ?_)
      | (with_reducible refine wpList_ld rfl 26 _ rfl Tryz.isAgg26 2 Tryz.sizeOf26 w.heap.size 5 rfl (regv x.reg) rfl sx5 ?_)
      | (with_reducible refine wpList_ld rfl 26 _ rfl Tryz.isAgg26 2 Tryz.sizeOf26 (w.heap.size + 1) 5 rfl (regv y.reg) rfl sy5 ?_)
      | (go_at_call 61; refine HEQ2.out.mono ?_; rintro _ w2 ⟨rfl, k2⟩; have K2 := KK.trans k2 (fun _ _ h => h); have c9 := Ex9.out _ k2; have d9 := Ey9.out _ k2)
      | (go_at_call 69; refine (HEU2.out _ K2).mono ?_; rintro _ w3 ⟨rfl, k3⟩; have k23 := k2.trans k3 (fun _ _ h => h); have sx10 := Ex10.out _ k23; have sy10 := Ey10.out _ k23; have sx18 := Ex18.out _ k23; have sy18 := Ey18.out _ k23)
      | (with_reducible refine wpList_ld rfl 28 _ rfl Tryz.isAgg28 8 Tryz.sizeOf28 w.heap.size 10 rfl (bcells x.key) kx sx10 ?_)
      | (with_reducible refine wpList_ld rfl 28 _ rfl Tryz.isAgg28 8 Tryz.sizeOf28 (w.heap.size + 1) 10 rfl (bcells y.key) ky sy10 ?_)
      | (with_reducible refine wpList_ld rfl 32 _ rfl Tryz.isAgg32 13 Tryz.sizeOf32 w.heap.size 18 rfl (itemv x.item) ix sx18 ?_)
      | (with_reducible refine wpList_ld rfl 32 _ rfl Tryz.isAgg32 13 Tryz.sizeOf32 (w.heap.size + 1) 18 rfl (itemv y.item) iy sy18 ?_))
    go_ret
    exact ⟨by rw [HS.out]; rfl, KK⟩
  case true =>
  cases b5
  case false =>
    go_enter Tryz.func30, Tryz.ntmps30
    go_wp2_with (first
      | (with_reducible refine wpList_ld rfl 24 _ rfl Tryz.isAgg24 3 Tryz.sizeOf24 w.heap.size 2 rfl (txv x.tx) rfl sx2 ?_)
      | (with_reducible refine wpList_ld rfl 24 _ rfl Tryz.isAgg24 3 Tryz.sizeOf24 (w.heap.size + 1) 2 rfl (txv y.tx) rfl sy2 ?_)
      | (with_reducible refine wpList_ld rfl 26 _ rfl Tryz.isAgg26 2 Tryz.sizeOf26 w.heap.size 5 rfl (regv x.reg) rfl sx5 ?_)
      | (with_reducible refine wpList_ld rfl 26 _ rfl Tryz.isAgg26 2 Tryz.sizeOf26 (w.heap.size + 1) 5 rfl (regv y.reg) rfl sy5 ?_)
      | (go_at_call 61; refine HEQ2.out.mono ?_; rintro _ w2 ⟨rfl, k2⟩; have K2 := KK.trans k2 (fun _ _ h => h); have c9 := Ex9.out _ k2; have d9 := Ey9.out _ k2)
      | (go_at_call 69; refine (HEU2.out _ K2).mono ?_; rintro _ w3 ⟨rfl, k3⟩; have k23 := k2.trans k3 (fun _ _ h => h); have sx10 := Ex10.out _ k23; have sy10 := Ey10.out _ k23; have sx18 := Ex18.out _ k23; have sy18 := Ey18.out _ k23)
      | (with_reducible refine wpList_ld rfl 28 _ rfl Tryz.isAgg28 8 Tryz.sizeOf28 w.heap.size 10 rfl (bcells x.key) kx sx10 ?_)
      | (with_reducible refine wpList_ld rfl 28 _ rfl Tryz.isAgg28 8 Tryz.sizeOf28 (w.heap.size + 1) 10 rfl (bcells y.key) ky sy10 ?_)
      | (with_reducible refine wpList_ld rfl 32 _ rfl Tryz.isAgg32 13 Tryz.sizeOf32 w.heap.size 18 rfl (itemv x.item) ix sx18 ?_)
      | (with_reducible refine wpList_ld rfl 32 _ rfl Tryz.isAgg32 13 Tryz.sizeOf32 (w.heap.size + 1) 18 rfl (itemv y.item) iy sy18 ?_))
    go_ret
    exact ⟨by rw [HS.out]; rfl, K2⟩
  case true =>
  cases b6
  case false =>
    go_enter Tryz.func30, Tryz.ntmps30
    go_wp2_with (first
      | (with_reducible refine wpList_ld rfl 24 _ rfl Tryz.isAgg24 3 Tryz.sizeOf24 w.heap.size 2 rfl (txv x.tx) rfl sx2 ?_)
      | (with_reducible refine wpList_ld rfl 24 _ rfl Tryz.isAgg24 3 Tryz.sizeOf24 (w.heap.size + 1) 2 rfl (txv y.tx) rfl sy2 ?_)
      | (with_reducible refine wpList_ld rfl 26 _ rfl Tryz.isAgg26 2 Tryz.sizeOf26 w.heap.size 5 rfl (regv x.reg) rfl sx5 ?_)
      | (with_reducible refine wpList_ld rfl 26 _ rfl Tryz.isAgg26 2 Tryz.sizeOf26 (w.heap.size + 1) 5 rfl (regv y.reg) rfl sy5 ?_)
      | (go_at_call 61; refine HEQ2.out.mono ?_; rintro _ w2 ⟨rfl, k2⟩; have K2 := KK.trans k2 (fun _ _ h => h); have c9 := Ex9.out _ k2; have d9 := Ey9.out _ k2)
      | (go_at_call 69; refine (HEU2.out _ K2).mono ?_; rintro _ w3 ⟨rfl, k3⟩; have k23 := k2.trans k3 (fun _ _ h => h); have sx10 := Ex10.out _ k23; have sy10 := Ey10.out _ k23; have sx18 := Ex18.out _ k23; have sy18 := Ey18.out _ k23)
      | (with_reducible refine wpList_ld rfl 28 _ rfl Tryz.isAgg28 8 Tryz.sizeOf28 w.heap.size 10 rfl (bcells x.key) kx sx10 ?_)
      | (with_reducible refine wpList_ld rfl 28 _ rfl Tryz.isAgg28 8 Tryz.sizeOf28 (w.heap.size + 1) 10 rfl (bcells y.key) ky sy10 ?_)
      | (with_reducible refine wpList_ld rfl 32 _ rfl Tryz.isAgg32 13 Tryz.sizeOf32 w.heap.size 18 rfl (itemv x.item) ix sx18 ?_)
      | (with_reducible refine wpList_ld rfl 32 _ rfl Tryz.isAgg32 13 Tryz.sizeOf32 (w.heap.size + 1) 18 rfl (itemv y.item) iy sy18 ?_))
    go_ret
    exact ⟨by rw [HS.out]; rfl, K2.trans k3 fun _ _ h => h⟩
  case true =>
  cases b7
  case false =>
    go_enter Tryz.func30, Tryz.ntmps30
    go_wp2_with (first
      | (with_reducible refine wpList_ld rfl 24 _ rfl Tryz.isAgg24 3 Tryz.sizeOf24 w.heap.size 2 rfl (txv x.tx) rfl sx2 ?_)
      | (with_reducible refine wpList_ld rfl 24 _ rfl Tryz.isAgg24 3 Tryz.sizeOf24 (w.heap.size + 1) 2 rfl (txv y.tx) rfl sy2 ?_)
      | (with_reducible refine wpList_ld rfl 26 _ rfl Tryz.isAgg26 2 Tryz.sizeOf26 w.heap.size 5 rfl (regv x.reg) rfl sx5 ?_)
      | (with_reducible refine wpList_ld rfl 26 _ rfl Tryz.isAgg26 2 Tryz.sizeOf26 (w.heap.size + 1) 5 rfl (regv y.reg) rfl sy5 ?_)
      | (go_at_call 61; refine HEQ2.out.mono ?_; rintro _ w2 ⟨rfl, k2⟩; have K2 := KK.trans k2 (fun _ _ h => h); have c9 := Ex9.out _ k2; have d9 := Ey9.out _ k2)
      | (go_at_call 69; refine (HEU2.out _ K2).mono ?_; rintro _ w3 ⟨rfl, k3⟩; have k23 := k2.trans k3 (fun _ _ h => h); have sx10 := Ex10.out _ k23; have sy10 := Ey10.out _ k23; have sx18 := Ex18.out _ k23; have sy18 := Ey18.out _ k23)
      | (with_reducible refine wpList_ld rfl 28 _ rfl Tryz.isAgg28 8 Tryz.sizeOf28 w.heap.size 10 rfl (bcells x.key) kx sx10 ?_)
      | (with_reducible refine wpList_ld rfl 28 _ rfl Tryz.isAgg28 8 Tryz.sizeOf28 (w.heap.size + 1) 10 rfl (bcells y.key) ky sy10 ?_)
      | (with_reducible refine wpList_ld rfl 32 _ rfl Tryz.isAgg32 13 Tryz.sizeOf32 w.heap.size 18 rfl (itemv x.item) ix sx18 ?_)
      | (with_reducible refine wpList_ld rfl 32 _ rfl Tryz.isAgg32 13 Tryz.sizeOf32 (w.heap.size + 1) 18 rfl (itemv y.item) iy sy18 ?_))
    go_ret
    exact ⟨by rw [HS.out]; rfl, K2.trans k3 fun _ _ h => h⟩
  case true =>
  go_enter Tryz.func30, Tryz.ntmps30
  go_wp2_with (first
    | (with_reducible refine wpList_ld rfl 24 _ rfl Tryz.isAgg24 3 Tryz.sizeOf24 w.heap.size 2 rfl (txv x.tx) rfl sx2 ?_)
    | (with_reducible refine wpList_ld rfl 24 _ rfl Tryz.isAgg24 3 Tryz.sizeOf24 (w.heap.size + 1) 2 rfl (txv y.tx) rfl sy2 ?_)
    | (with_reducible refine wpList_ld rfl 26 _ rfl Tryz.isAgg26 2 Tryz.sizeOf26 w.heap.size 5 rfl (regv x.reg) rfl sx5 ?_)
    | (with_reducible refine wpList_ld rfl 26 _ rfl Tryz.isAgg26 2 Tryz.sizeOf26 (w.heap.size + 1) 5 rfl (regv y.reg) rfl sy5 ?_)
    | (go_at_call 61; refine HEQ2.out.mono ?_; rintro _ w2 ⟨rfl, k2⟩; have K2 := KK.trans k2 (fun _ _ h => h); have c9 := Ex9.out _ k2; have d9 := Ey9.out _ k2)
    | (go_at_call 69; refine (HEU2.out _ K2).mono ?_; rintro _ w3 ⟨rfl, k3⟩; have k23 := k2.trans k3 (fun _ _ h => h); have sx10 := Ex10.out _ k23; have sy10 := Ey10.out _ k23; have sx18 := Ex18.out _ k23; have sy18 := Ey18.out _ k23)
    | (with_reducible refine wpList_ld rfl 28 _ rfl Tryz.isAgg28 8 Tryz.sizeOf28 w.heap.size 10 rfl (bcells x.key) kx sx10 ?_)
    | (with_reducible refine wpList_ld rfl 28 _ rfl Tryz.isAgg28 8 Tryz.sizeOf28 (w.heap.size + 1) 10 rfl (bcells y.key) ky sy10 ?_)
    | (with_reducible refine wpList_ld rfl 32 _ rfl Tryz.isAgg32 13 Tryz.sizeOf32 w.heap.size 18 rfl (itemv x.item) ix sx18 ?_)
    | (with_reducible refine wpList_ld rfl 32 _ rfl Tryz.isAgg32 13 Tryz.sizeOf32 (w.heap.size + 1) 18 rfl (itemv y.item) iy sy18 ?_))
  go_ret
  exact ⟨by rw [HS.out]; rfl, K2.trans k3 fun _ _ h => h⟩
end
end Go.Proofs.YtjfmidcaekhhgaaGreatDoor
