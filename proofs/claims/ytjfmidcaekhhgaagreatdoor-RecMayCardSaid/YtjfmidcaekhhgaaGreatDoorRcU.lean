/- Records compared, as walks. Printed by gen_rcu.py. -/
import Derived.Test.YtjfmidcaekhhgaaGreatDoorRcT
import Derived.Test.YtjfmidcaekhhgaaGreatDoorMsQ
namespace Go.Proofs.YtjfmidcaekhhgaaGreatDoor
open Go.RowKit Go.PM

section
variable {w : World}
def EuRel (xs ys : List Nat) (w0 : World) (i : Value) (wr : World) : Prop := ∃ k : Nat, k ≤ xs.length ∧ i = .int .i64 k ∧ (∀ j, j < k → xs[j]? = ys[j]?) ∧ Kept No w0 wr
set_option maxRecDepth 100000 in
set_option maxHeartbeats 1000000 in
theorem uequal_calls (xs ys : List Nat) (n n' : Nat) (hn : xs.length = n) (hn' : ys.length = n') (a a' : Option Addr) (c c' : Nat) (hr : Rd w a (ucells xs)) (hs : Rd w a' (ucells ys)) (hlen : n ≤ 140737488355328) (hlen' : n' ≤ 140737488355328) :
    Calls Tryz.prog 68 #[.slice a n c, .slice a' n' c'] w fun e w' => e = .returned (.bool (xs == ys)) ∧ Kept No w w' := by
  by_cases hne : n = n'
  case neg =>
    have HB := Lib.hid (show (xs == ys) = false from beq_eq_false_iff_ne.2 fun h => hne (by rw [← hn, ← hn', h]))
    have q : ((n : Int) == n') = false := beq_eq_false_iff_ne.2 (by omega)
    clear hn hn' hr hs hne
    go_enter Tryz.func68, Tryz.ntmps68
    go_wp2
    go_ret
    exact ⟨by rw [HB.out]; rfl, Kept.refl _ _⟩
  subst hne
  have q : ((n : Int) == n) = true := beq_iff_eq.2 rfl
  have hl64 : (n : Int) ≤ 140737488355328 := by omega
  go_enter Tryz.func68, Tryz.ntmps68
  go_wp2
  go_loopw [5, 13] (fun _ i wr => EuRel xs ys w i wr) (fun _ i _ => n - (intOf i).toNat)
  case atStart => exact ⟨0, by omega, rfl, fun j hj => by omega, Kept.refl _ _⟩
  case round =>
    obtain ⟨k, hk, rfl, heq, hkk⟩ := hrel
    by_cases hlt : k < n
    · have hkx : k < xs.length := by omega
      have hky : k < ys.length := by omega
      have i1 : (k : Int) < n := by omega
      have i0 : (0 : Int) ≤ k := by omega
      obtain ⟨x, hx⟩ : ∃ x, xs[k] = x := ⟨_, rfl⟩
      obtain ⟨y, hy⟩ : ∃ y, ys[k] = y := ⟨_, rfl⟩
      obtain ⟨b, o, rfl, hc1⟩ := (hr.keptNo hkk) k (.int .u64 x) (by simp [ucells, hkx, hx])
      obtain ⟨b', o', rfl, hc2⟩ := (hs.keptNo hkk) k (.int .u64 y) (by simp [ucells, hky, hy])
      have h1 : xs[k]? = some x := by rw [List.getElem?_eq_getElem hkx, hx]
      have h2 : ys[k]? = some y := by rw [List.getElem?_eq_getElem hky, hy]
      have hd1 : ∀ d, (wr.drewN d).cell? ⟨b, o + k, none⟩ = some (.int .u64 x) := fun _ => hc1
      have hd2 : ∀ d, (wr.drewN d).cell? ⟨b', o' + k, none⟩ = some (.int .u64 y) := fun _ => hc2
      by_cases he : x = y
      · have hq : ((x : Int) == y) = true := beq_iff_eq.2 (by omega)
        have HN := Lib.hid (show ∀ j, j < k + 1 → xs[j]? = ys[j]? from fun j hj => by
          rcases Nat.lt_succ_iff_lt_or_eq.1 hj with h | h
          · exact heq j h
          · rw [h, h1, h2, he])
        clear he hx hy h1 h2 heq hr hs
        go_wp2
        go_quiet (fail)
        go_wp2
        exact ⟨⟨k + 1, by omega, by go_num, HN.out, hkk.drewN _⟩, by simp [intOf]; omega⟩
      · have hq : ((x : Int) == y) = false := beq_eq_false_iff_ne.2 (by omega)
        have HB := Lib.hid (show (xs == ys) = false from beq_eq_false_iff_ne.2 fun h => he (by rw [h, h2] at h1; exact (Option.some.inj h1).symm))
        clear he hx hy h1 h2 heq hr hs
        go_wp2
        go_quiet (fail)
        go_wp2
        go_ret
        exact ⟨by rw [HB.out]; rfl, hkk.drewN _⟩
    · obtain rfl : n = k := by omega
      have HB := Lib.hid (show (xs == ys) = true from beq_iff_eq.2 (List.ext_getElem? fun j => by
        rcases Nat.lt_or_ge j n with h | h
        · exact heq j h
        · rw [List.getElem?_eq_none (by omega), List.getElem?_eq_none (by omega)]))
      clear heq hr hs
      go_wp2
      go_ret
      exact ⟨by rw [HB.out]; rfl, hkk⟩

/-- Are two records the same? -/
noncomputable def sameR (x y : PRec) : Bool :=
  (x.kind : Int) == y.kind && ((x.n : Int) == y.n && (decide (x.tx = y.tx) && (decide (x.reg = y.reg) && ((x.members : Int) == y.members && (x.key == y.key && (decide (x.item = y.item) && (sameW x.writes y.writes && x.missing == y.missing)))))))
theorem sameR_self (x : PRec) : sameR x x = true := by simp [sameR, sameW_yes]
set_option maxRecDepth 100000 in
set_option maxHeartbeats 4000000 in
theorem rsame_calls (x y : PRec) (xw xm yw ym : Option Addr) (cw cm dw dm : Nat) (wx : x.Wf) (wy : y.Wf) (sx : x.Sm) (sy : y.Sm) (hxw : Rd w xw (pwsv x.writes)) (hxm : Rd w xm (ucells x.missing)) (hyw : Rd w yw (pwsv y.writes)) (hym : Rd w ym (ucells y.missing)) :
    Calls Tryz.prog 29 #[.agg (recv x xw cw xm cm).toArray, .agg (recv y yw dw ym dm).toArray] w fun e w' => e = .returned (.bool (sameR x y)) ∧ Kept No w w' := by
  have X0 := (Blk.new w 53 (recv x xw cw xm cm)).alloc (.cells (recv y yw dw ym dm).toArray 53)
  have Y0 := Blk.new' (w := w.alloc (.cells (recv x xw cw xm cm).toArray 53)) (g := w.heap.size + 1) (by rw [World.size_alloc]) 53 (recv y yw dw ym dm)
  have KK := ((Kept.refl No w).alloc (.cells (recv x xw cw xm cm).toArray 53)).alloc (.cells (recv y yw dw ym dm).toArray 53)
  have c0 := (X0.cell 0).trans (show (recv x xw cw xm cm)[0]? = some (.int .u8 x.kind) from rfl)
  have c1 := (X0.cell 1).trans (show (recv x xw cw xm cm)[1]? = some (.int .u32 x.n) from rfl)
  have c7 := (X0.cell 7).trans (show (recv x xw cw xm cm)[7]? = some (.int .u64 x.members) from rfl)
  have c8 := (X0.cell 8).trans (show (recv x xw cw xm cm)[8]? = some (.slice xw x.writes.length cw) from rfl)
  have d0 := (Y0.cell 0).trans (show (recv y yw dw ym dm)[0]? = some (.int .u8 y.kind) from rfl)
  have d1 := (Y0.cell 1).trans (show (recv y yw dw ym dm)[1]? = some (.int .u32 y.n) from rfl)
  have d7 := (Y0.cell 7).trans (show (recv y yw dw ym dm)[7]? = some (.int .u64 y.members) from rfl)
  have d8 := (Y0.cell 8).trans (show (recv y yw dw ym dm)[8]? = some (.slice yw y.writes.length dw) from rfl)
  have sx2 := X0.seg 2 (txv x.tx) (by simp [recv, txv])
  have sx5 := X0.seg 5 (regv x.reg) (by simp [recv, txv, regv])
  have sx10 := X0.seg 10 (bcells x.key) (by simp [recv, txv, regv])
  have ix := itemv_length wx.item
  have iy := itemv_length wy.item
  have sx18 := X0.seg 18 (itemv x.item) (by simp [recv, txv, regv, ix, wx.key]; exact List.take_of_length_le (by omega))
  have sy2 := Y0.seg 2 (txv y.tx) (by simp [recv, txv])
  have sy5 := Y0.seg 5 (regv y.reg) (by simp [recv, txv, regv])
  have sy10 := Y0.seg 10 (bcells y.key) (by simp [recv, txv, regv])
  have sy18 := Y0.seg 18 (itemv y.item) (by simp [recv, txv, regv, iy, wy.key]; exact List.take_of_length_le (by omega))
  have kx : (bcells x.key).length = 8 := by rw [bcells_length, wx.key]
  have ky : (bcells y.key).length = 8 := by rw [bcells_length, wy.key]
  have hg1 := eqGuard_tx
  have hg2 := eqGuard_reg
  have hg3 := eqGuard_key
  have hg4 := eqGuard_item
  have HEQ := equal_calls x.writes y.writes x.writes.length y.writes.length rfl rfl xw yw cw dw wx.writes wy.writes (hxw.keptNo KK) (hyw.keptNo KK) sx.many sy.many
  have HEU := fun (W : World) (k : Kept No w W) => uequal_calls (w := W) x.missing y.missing x.missing.length y.missing.length rfl rfl xm ym cm dm (hxm.keptNo k) (hym.keptNo k) sx.miss sy.miss
  have hq2 : ∀ w, (binOp .eql 24 (.agg (txv x.tx).toArray) (.agg (txv y.tx).toArray)).run Tryz.prog w = .ok (.bool (decide (x.tx = y.tx))) w := fun w => eqlTx x.tx y.tx w
  have hq3 : ∀ w, (binOp .eql 26 (.agg (regv x.reg).toArray) (.agg (regv y.reg).toArray)).run Tryz.prog w = .ok (.bool (decide (x.reg = y.reg))) w := fun w => eqlReg x.reg y.reg w
  have hq5 := fun w => eqlKey x.key y.key wx.key wy.key w
  have hq6 := fun w => eqlItem x.item y.item wx.item wy.item w
  obtain ⟨b0, h0⟩ : ∃ b, ((x.kind : Int) == y.kind) = b := ⟨_, rfl⟩
  obtain ⟨b1, h1⟩ : ∃ b, ((x.n : Int) == y.n) = b := ⟨_, rfl⟩
  obtain ⟨b2, h2⟩ : ∃ b, decide (x.tx = y.tx) = b := ⟨_, rfl⟩
  obtain ⟨b3, h3⟩ : ∃ b, decide (x.reg = y.reg) = b := ⟨_, rfl⟩
  obtain ⟨b4, h4⟩ : ∃ b, ((x.members : Int) == y.members) = b := ⟨_, rfl⟩
  obtain ⟨b5, h5⟩ : ∃ b, (x.key == y.key) = b := ⟨_, rfl⟩
  obtain ⟨b6, h6⟩ : ∃ b, decide (x.item = y.item) = b := ⟨_, rfl⟩
  obtain ⟨b7, h7⟩ : ∃ b, sameW x.writes y.writes = b := ⟨_, rfl⟩
  obtain ⟨b8, h8⟩ : ∃ b, (x.missing == y.missing) = b := ⟨_, rfl⟩
  have HS := Lib.hid (show sameR x y = (b0 && (b1 && (b2 && (b3 && (b4 && (b5 && (b6 && (b7 && b8)))))))) by unfold sameR; rw [h0, h1, h2, h3, h4, h5, h6, h7, h8])
  rw [h2] at hq2
  rw [h3] at hq3
  rw [h5] at hq5
  rw [h6] at hq6
  rw [h7] at HEQ
  have HEU2 : Hid (∀ W, Kept No w W → Calls Tryz.prog 68 #[.slice xm x.missing.length cm, .slice ym y.missing.length dm] W fun e w' => e = .returned (.bool b8) ∧ Kept No W w') := Lib.hid fun W k => by have := HEU W k; rw [h8] at this; exact this
  have HEQ2 := Lib.hid HEQ
  clear h2 h3 h5 h6 h7 h8 HEQ HEU hxw hxm hyw hym sx sy wx wy
  cases b0
  case false =>
    go_enter Tryz.func29, Tryz.ntmps29
    go_wp2_with (first
      | (with_reducible refine wpList_ld rfl 24 _ rfl Tryz.isAgg24 3 Tryz.sizeOf24 w.heap.size 2 rfl (txv x.tx) rfl sx2 ?_)
      | (with_reducible refine wpList_ld rfl 24 _ rfl Tryz.isAgg24 3 Tryz.sizeOf24 (w.heap.size + 1) 2 rfl (txv y.tx) rfl sy2 ?_)
      | (with_reducible refine wpList_ld rfl 26 _ rfl Tryz.isAgg26 2 Tryz.sizeOf26 w.heap.size 5 rfl (regv x.reg) rfl sx5 ?_)
      | (with_reducible refine wpList_ld rfl 26 _ rfl Tryz.isAgg26 2 Tryz.sizeOf26 (w.heap.size + 1) 5 rfl (regv y.reg) rfl sy5 ?_)
      | (with_reducible refine wpList_ld rfl 28 _ rfl Tryz.isAgg28 8 Tryz.sizeOf28 w.heap.size 10 rfl (bcells x.key) kx sx10 ?_)
      | (with_reducible refine wpList_ld rfl 28 _ rfl Tryz.isAgg28 8 Tryz.sizeOf28 (w.heap.size + 1) 10 rfl (bcells y.key) ky sy10 ?_)
      | (with_reducible refine wpList_ld rfl 32 _ rfl Tryz.isAgg32 13 Tryz.sizeOf32 w.heap.size 18 rfl (itemv x.item) ix sx18 ?_)
      | (with_reducible refine wpList_ld rfl 32 _ rfl Tryz.isAgg32 13 Tryz.sizeOf32 (w.heap.size + 1) 18 rfl (itemv y.item) iy sy18 ?_)
      | (go_at_call 60; refine HEQ2.out.mono ?_; rintro _ w2 ⟨rfl, k2⟩; have K2 := KK.trans k2 (fun _ _ h => h); have c9 := ((X0.kept k2 (fun h => h)).cell 9).trans (show (recv x xw cw xm cm)[9]? = some (.slice xm x.missing.length cm) from rfl); have d9 := ((Y0.kept k2 (fun h => h)).cell 9).trans (show (recv y yw dw ym dm)[9]? = some (.slice ym y.missing.length dm) from rfl))
      | (go_at_call 68; refine (HEU2.out _ K2).mono ?_; rintro _ w3 ⟨rfl, k3⟩))
    go_ret
    exact ⟨by rw [HS.out]; rfl, KK⟩
  case true =>
  cases b1
  case false =>
    go_enter Tryz.func29, Tryz.ntmps29
    go_wp2_with (first
      | (with_reducible refine wpList_ld rfl 24 _ rfl Tryz.isAgg24 3 Tryz.sizeOf24 w.heap.size 2 rfl (txv x.tx) rfl sx2 ?_)
      | (with_reducible refine wpList_ld rfl 24 _ rfl Tryz.isAgg24 3 Tryz.sizeOf24 (w.heap.size + 1) 2 rfl (txv y.tx) rfl sy2 ?_)
      | (with_reducible refine wpList_ld rfl 26 _ rfl Tryz.isAgg26 2 Tryz.sizeOf26 w.heap.size 5 rfl (regv x.reg) rfl sx5 ?_)
      | (with_reducible refine wpList_ld rfl 26 _ rfl Tryz.isAgg26 2 Tryz.sizeOf26 (w.heap.size + 1) 5 rfl (regv y.reg) rfl sy5 ?_)
      | (with_reducible refine wpList_ld rfl 28 _ rfl Tryz.isAgg28 8 Tryz.sizeOf28 w.heap.size 10 rfl (bcells x.key) kx sx10 ?_)
      | (with_reducible refine wpList_ld rfl 28 _ rfl Tryz.isAgg28 8 Tryz.sizeOf28 (w.heap.size + 1) 10 rfl (bcells y.key) ky sy10 ?_)
      | (with_reducible refine wpList_ld rfl 32 _ rfl Tryz.isAgg32 13 Tryz.sizeOf32 w.heap.size 18 rfl (itemv x.item) ix sx18 ?_)
      | (with_reducible refine wpList_ld rfl 32 _ rfl Tryz.isAgg32 13 Tryz.sizeOf32 (w.heap.size + 1) 18 rfl (itemv y.item) iy sy18 ?_)
      | (go_at_call 60; refine HEQ2.out.mono ?_; rintro _ w2 ⟨rfl, k2⟩; have K2 := KK.trans k2 (fun _ _ h => h); have c9 := ((X0.kept k2 (fun h => h)).cell 9).trans (show (recv x xw cw xm cm)[9]? = some (.slice xm x.missing.length cm) from rfl); have d9 := ((Y0.kept k2 (fun h => h)).cell 9).trans (show (recv y yw dw ym dm)[9]? = some (.slice ym y.missing.length dm) from rfl))
      | (go_at_call 68; refine (HEU2.out _ K2).mono ?_; rintro _ w3 ⟨rfl, k3⟩))
    go_ret
    exact ⟨by rw [HS.out]; rfl, KK⟩
  case true =>
  cases b2
  case false =>
    go_enter Tryz.func29, Tryz.ntmps29
    go_wp2_with (first
      | (with_reducible refine wpList_ld rfl 24 _ rfl Tryz.isAgg24 3 Tryz.sizeOf24 w.heap.size 2 rfl (txv x.tx) rfl sx2 ?_)
      | (with_reducible refine wpList_ld rfl 24 _ rfl Tryz.isAgg24 3 Tryz.sizeOf24 (w.heap.size + 1) 2 rfl (txv y.tx) rfl sy2 ?_)
      | (with_reducible refine wpList_ld rfl 26 _ rfl Tryz.isAgg26 2 Tryz.sizeOf26 w.heap.size 5 rfl (regv x.reg) rfl sx5 ?_)
      | (with_reducible refine wpList_ld rfl 26 _ rfl Tryz.isAgg26 2 Tryz.sizeOf26 (w.heap.size + 1) 5 rfl (regv y.reg) rfl sy5 ?_)
      | (with_reducible refine wpList_ld rfl 28 _ rfl Tryz.isAgg28 8 Tryz.sizeOf28 w.heap.size 10 rfl (bcells x.key) kx sx10 ?_)
      | (with_reducible refine wpList_ld rfl 28 _ rfl Tryz.isAgg28 8 Tryz.sizeOf28 (w.heap.size + 1) 10 rfl (bcells y.key) ky sy10 ?_)
      | (with_reducible refine wpList_ld rfl 32 _ rfl Tryz.isAgg32 13 Tryz.sizeOf32 w.heap.size 18 rfl (itemv x.item) ix sx18 ?_)
      | (with_reducible refine wpList_ld rfl 32 _ rfl Tryz.isAgg32 13 Tryz.sizeOf32 (w.heap.size + 1) 18 rfl (itemv y.item) iy sy18 ?_)
      | (go_at_call 60; refine HEQ2.out.mono ?_; rintro _ w2 ⟨rfl, k2⟩; have K2 := KK.trans k2 (fun _ _ h => h); have c9 := ((X0.kept k2 (fun h => h)).cell 9).trans (show (recv x xw cw xm cm)[9]? = some (.slice xm x.missing.length cm) from rfl); have d9 := ((Y0.kept k2 (fun h => h)).cell 9).trans (show (recv y yw dw ym dm)[9]? = some (.slice ym y.missing.length dm) from rfl))
      | (go_at_call 68; refine (HEU2.out _ K2).mono ?_; rintro _ w3 ⟨rfl, k3⟩))
    go_ret
    exact ⟨by rw [HS.out]; rfl, KK⟩
  case true =>
  cases b3
  case false =>
    go_enter Tryz.func29, Tryz.ntmps29
    go_wp2_with (first
      | (with_reducible refine wpList_ld rfl 24 _ rfl Tryz.isAgg24 3 Tryz.sizeOf24 w.heap.size 2 rfl (txv x.tx) rfl sx2 ?_)
      | (with_reducible refine wpList_ld rfl 24 _ rfl Tryz.isAgg24 3 Tryz.sizeOf24 (w.heap.size + 1) 2 rfl (txv y.tx) rfl sy2 ?_)
      | (with_reducible refine wpList_ld rfl 26 _ rfl Tryz.isAgg26 2 Tryz.sizeOf26 w.heap.size 5 rfl (regv x.reg) rfl sx5 ?_)
      | (with_reducible refine wpList_ld rfl 26 _ rfl Tryz.isAgg26 2 Tryz.sizeOf26 (w.heap.size + 1) 5 rfl (regv y.reg) rfl sy5 ?_)
      | (with_reducible refine wpList_ld rfl 28 _ rfl Tryz.isAgg28 8 Tryz.sizeOf28 w.heap.size 10 rfl (bcells x.key) kx sx10 ?_)
      | (with_reducible refine wpList_ld rfl 28 _ rfl Tryz.isAgg28 8 Tryz.sizeOf28 (w.heap.size + 1) 10 rfl (bcells y.key) ky sy10 ?_)
      | (with_reducible refine wpList_ld rfl 32 _ rfl Tryz.isAgg32 13 Tryz.sizeOf32 w.heap.size 18 rfl (itemv x.item) ix sx18 ?_)
      | (with_reducible refine wpList_ld rfl 32 _ rfl Tryz.isAgg32 13 Tryz.sizeOf32 (w.heap.size + 1) 18 rfl (itemv y.item) iy sy18 ?_)
      | (go_at_call 60; refine HEQ2.out.mono ?_; rintro _ w2 ⟨rfl, k2⟩; have K2 := KK.trans k2 (fun _ _ h => h); have c9 := ((X0.kept k2 (fun h => h)).cell 9).trans (show (recv x xw cw xm cm)[9]? = some (.slice xm x.missing.length cm) from rfl); have d9 := ((Y0.kept k2 (fun h => h)).cell 9).trans (show (recv y yw dw ym dm)[9]? = some (.slice ym y.missing.length dm) from rfl))
      | (go_at_call 68; refine (HEU2.out _ K2).mono ?_; rintro _ w3 ⟨rfl, k3⟩))
    go_ret
    exact ⟨by rw [HS.out]; rfl, KK⟩
  case true =>
  cases b4
  case false =>
    go_enter Tryz.func29, Tryz.ntmps29
    go_wp2_with (first
      | (with_reducible refine wpList_ld rfl 24 _ rfl Tryz.isAgg24 3 Tryz.sizeOf24 w.heap.size 2 rfl (txv x.tx) rfl sx2 ?_)
      | (with_reducible refine wpList_ld rfl 24 _ rfl Tryz.isAgg24 3 Tryz.sizeOf24 (w.heap.size + 1) 2 rfl (txv y.tx) rfl sy2 ?_)
      | (with_reducible refine wpList_ld rfl 26 _ rfl Tryz.isAgg26 2 Tryz.sizeOf26 w.heap.size 5 rfl (regv x.reg) rfl sx5 ?_)
      | (with_reducible refine wpList_ld rfl 26 _ rfl Tryz.isAgg26 2 Tryz.sizeOf26 (w.heap.size + 1) 5 rfl (regv y.reg) rfl sy5 ?_)
      | (with_reducible refine wpList_ld rfl 28 _ rfl Tryz.isAgg28 8 Tryz.sizeOf28 w.heap.size 10 rfl (bcells x.key) kx sx10 ?_)
      | (with_reducible refine wpList_ld rfl 28 _ rfl Tryz.isAgg28 8 Tryz.sizeOf28 (w.heap.size + 1) 10 rfl (bcells y.key) ky sy10 ?_)
      | (with_reducible refine wpList_ld rfl 32 _ rfl Tryz.isAgg32 13 Tryz.sizeOf32 w.heap.size 18 rfl (itemv x.item) ix sx18 ?_)
      | (with_reducible refine wpList_ld rfl 32 _ rfl Tryz.isAgg32 13 Tryz.sizeOf32 (w.heap.size + 1) 18 rfl (itemv y.item) iy sy18 ?_)
      | (go_at_call 60; refine HEQ2.out.mono ?_; rintro _ w2 ⟨rfl, k2⟩; have K2 := KK.trans k2 (fun _ _ h => h); have c9 := ((X0.kept k2 (fun h => h)).cell 9).trans (show (recv x xw cw xm cm)[9]? = some (.slice xm x.missing.length cm) from rfl); have d9 := ((Y0.kept k2 (fun h => h)).cell 9).trans (show (recv y yw dw ym dm)[9]? = some (.slice ym y.missing.length dm) from rfl))
      | (go_at_call 68; refine (HEU2.out _ K2).mono ?_; rintro _ w3 ⟨rfl, k3⟩))
    go_ret
    exact ⟨by rw [HS.out]; rfl, KK⟩
  case true =>
  cases b5
  case false =>
    go_enter Tryz.func29, Tryz.ntmps29
    go_wp2_with (first
      | (with_reducible refine wpList_ld rfl 24 _ rfl Tryz.isAgg24 3 Tryz.sizeOf24 w.heap.size 2 rfl (txv x.tx) rfl sx2 ?_)
      | (with_reducible refine wpList_ld rfl 24 _ rfl Tryz.isAgg24 3 Tryz.sizeOf24 (w.heap.size + 1) 2 rfl (txv y.tx) rfl sy2 ?_)
      | (with_reducible refine wpList_ld rfl 26 _ rfl Tryz.isAgg26 2 Tryz.sizeOf26 w.heap.size 5 rfl (regv x.reg) rfl sx5 ?_)
      | (with_reducible refine wpList_ld rfl 26 _ rfl Tryz.isAgg26 2 Tryz.sizeOf26 (w.heap.size + 1) 5 rfl (regv y.reg) rfl sy5 ?_)
      | (with_reducible refine wpList_ld rfl 28 _ rfl Tryz.isAgg28 8 Tryz.sizeOf28 w.heap.size 10 rfl (bcells x.key) kx sx10 ?_)
      | (with_reducible refine wpList_ld rfl 28 _ rfl Tryz.isAgg28 8 Tryz.sizeOf28 (w.heap.size + 1) 10 rfl (bcells y.key) ky sy10 ?_)
      | (with_reducible refine wpList_ld rfl 32 _ rfl Tryz.isAgg32 13 Tryz.sizeOf32 w.heap.size 18 rfl (itemv x.item) ix sx18 ?_)
      | (with_reducible refine wpList_ld rfl 32 _ rfl Tryz.isAgg32 13 Tryz.sizeOf32 (w.heap.size + 1) 18 rfl (itemv y.item) iy sy18 ?_)
      | (go_at_call 60; refine HEQ2.out.mono ?_; rintro _ w2 ⟨rfl, k2⟩; have K2 := KK.trans k2 (fun _ _ h => h); have c9 := ((X0.kept k2 (fun h => h)).cell 9).trans (show (recv x xw cw xm cm)[9]? = some (.slice xm x.missing.length cm) from rfl); have d9 := ((Y0.kept k2 (fun h => h)).cell 9).trans (show (recv y yw dw ym dm)[9]? = some (.slice ym y.missing.length dm) from rfl))
      | (go_at_call 68; refine (HEU2.out _ K2).mono ?_; rintro _ w3 ⟨rfl, k3⟩))
    go_ret
    exact ⟨by rw [HS.out]; rfl, KK⟩
  case true =>
  cases b6
  case false =>
    go_enter Tryz.func29, Tryz.ntmps29
    go_wp2_with (first
      | (with_reducible refine wpList_ld rfl 24 _ rfl Tryz.isAgg24 3 Tryz.sizeOf24 w.heap.size 2 rfl (txv x.tx) rfl sx2 ?_)
      | (with_reducible refine wpList_ld rfl 24 _ rfl Tryz.isAgg24 3 Tryz.sizeOf24 (w.heap.size + 1) 2 rfl (txv y.tx) rfl sy2 ?_)
      | (with_reducible refine wpList_ld rfl 26 _ rfl Tryz.isAgg26 2 Tryz.sizeOf26 w.heap.size 5 rfl (regv x.reg) rfl sx5 ?_)
      | (with_reducible refine wpList_ld rfl 26 _ rfl Tryz.isAgg26 2 Tryz.sizeOf26 (w.heap.size + 1) 5 rfl (regv y.reg) rfl sy5 ?_)
      | (with_reducible refine wpList_ld rfl 28 _ rfl Tryz.isAgg28 8 Tryz.sizeOf28 w.heap.size 10 rfl (bcells x.key) kx sx10 ?_)
      | (with_reducible refine wpList_ld rfl 28 _ rfl Tryz.isAgg28 8 Tryz.sizeOf28 (w.heap.size + 1) 10 rfl (bcells y.key) ky sy10 ?_)
      | (with_reducible refine wpList_ld rfl 32 _ rfl Tryz.isAgg32 13 Tryz.sizeOf32 w.heap.size 18 rfl (itemv x.item) ix sx18 ?_)
      | (with_reducible refine wpList_ld rfl 32 _ rfl Tryz.isAgg32 13 Tryz.sizeOf32 (w.heap.size + 1) 18 rfl (itemv y.item) iy sy18 ?_)
      | (go_at_call 60; refine HEQ2.out.mono ?_; rintro _ w2 ⟨rfl, k2⟩; have K2 := KK.trans k2 (fun _ _ h => h); have c9 := ((X0.kept k2 (fun h => h)).cell 9).trans (show (recv x xw cw xm cm)[9]? = some (.slice xm x.missing.length cm) from rfl); have d9 := ((Y0.kept k2 (fun h => h)).cell 9).trans (show (recv y yw dw ym dm)[9]? = some (.slice ym y.missing.length dm) from rfl))
      | (go_at_call 68; refine (HEU2.out _ K2).mono ?_; rintro _ w3 ⟨rfl, k3⟩))
    go_ret
    exact ⟨by rw [HS.out]; rfl, KK⟩
  case true =>
  cases b7
  case false =>
    go_enter Tryz.func29, Tryz.ntmps29
    go_wp2_with (first
      | (with_reducible refine wpList_ld rfl 24 _ rfl Tryz.isAgg24 3 Tryz.sizeOf24 w.heap.size 2 rfl (txv x.tx) rfl sx2 ?_)
      | (with_reducible refine wpList_ld rfl 24 _ rfl Tryz.isAgg24 3 Tryz.sizeOf24 (w.heap.size + 1) 2 rfl (txv y.tx) rfl sy2 ?_)
      | (with_reducible refine wpList_ld rfl 26 _ rfl Tryz.isAgg26 2 Tryz.sizeOf26 w.heap.size 5 rfl (regv x.reg) rfl sx5 ?_)
      | (with_reducible refine wpList_ld rfl 26 _ rfl Tryz.isAgg26 2 Tryz.sizeOf26 (w.heap.size + 1) 5 rfl (regv y.reg) rfl sy5 ?_)
      | (with_reducible refine wpList_ld rfl 28 _ rfl Tryz.isAgg28 8 Tryz.sizeOf28 w.heap.size 10 rfl (bcells x.key) kx sx10 ?_)
      | (with_reducible refine wpList_ld rfl 28 _ rfl Tryz.isAgg28 8 Tryz.sizeOf28 (w.heap.size + 1) 10 rfl (bcells y.key) ky sy10 ?_)
      | (with_reducible refine wpList_ld rfl 32 _ rfl Tryz.isAgg32 13 Tryz.sizeOf32 w.heap.size 18 rfl (itemv x.item) ix sx18 ?_)
      | (with_reducible refine wpList_ld rfl 32 _ rfl Tryz.isAgg32 13 Tryz.sizeOf32 (w.heap.size + 1) 18 rfl (itemv y.item) iy sy18 ?_)
      | (go_at_call 60; refine HEQ2.out.mono ?_; rintro _ w2 ⟨rfl, k2⟩; have K2 := KK.trans k2 (fun _ _ h => h); have c9 := ((X0.kept k2 (fun h => h)).cell 9).trans (show (recv x xw cw xm cm)[9]? = some (.slice xm x.missing.length cm) from rfl); have d9 := ((Y0.kept k2 (fun h => h)).cell 9).trans (show (recv y yw dw ym dm)[9]? = some (.slice ym y.missing.length dm) from rfl))
      | (go_at_call 68; refine (HEU2.out _ K2).mono ?_; rintro _ w3 ⟨rfl, k3⟩))
    go_ret
    exact ⟨by rw [HS.out]; rfl, K2⟩
  case true =>
  cases b8
  case false =>
    go_enter Tryz.func29, Tryz.ntmps29
    go_wp2_with (first
      | (with_reducible refine wpList_ld rfl 24 _ rfl Tryz.isAgg24 3 Tryz.sizeOf24 w.heap.size 2 rfl (txv x.tx) rfl sx2 ?_)
      | (with_reducible refine wpList_ld rfl 24 _ rfl Tryz.isAgg24 3 Tryz.sizeOf24 (w.heap.size + 1) 2 rfl (txv y.tx) rfl sy2 ?_)
      | (with_reducible refine wpList_ld rfl 26 _ rfl Tryz.isAgg26 2 Tryz.sizeOf26 w.heap.size 5 rfl (regv x.reg) rfl sx5 ?_)
      | (with_reducible refine wpList_ld rfl 26 _ rfl Tryz.isAgg26 2 Tryz.sizeOf26 (w.heap.size + 1) 5 rfl (regv y.reg) rfl sy5 ?_)
      | (with_reducible refine wpList_ld rfl 28 _ rfl Tryz.isAgg28 8 Tryz.sizeOf28 w.heap.size 10 rfl (bcells x.key) kx sx10 ?_)
      | (with_reducible refine wpList_ld rfl 28 _ rfl Tryz.isAgg28 8 Tryz.sizeOf28 (w.heap.size + 1) 10 rfl (bcells y.key) ky sy10 ?_)
      | (with_reducible refine wpList_ld rfl 32 _ rfl Tryz.isAgg32 13 Tryz.sizeOf32 w.heap.size 18 rfl (itemv x.item) ix sx18 ?_)
      | (with_reducible refine wpList_ld rfl 32 _ rfl Tryz.isAgg32 13 Tryz.sizeOf32 (w.heap.size + 1) 18 rfl (itemv y.item) iy sy18 ?_)
      | (go_at_call 60; refine HEQ2.out.mono ?_; rintro _ w2 ⟨rfl, k2⟩; have K2 := KK.trans k2 (fun _ _ h => h); have c9 := ((X0.kept k2 (fun h => h)).cell 9).trans (show (recv x xw cw xm cm)[9]? = some (.slice xm x.missing.length cm) from rfl); have d9 := ((Y0.kept k2 (fun h => h)).cell 9).trans (show (recv y yw dw ym dm)[9]? = some (.slice ym y.missing.length dm) from rfl))
      | (go_at_call 68; refine (HEU2.out _ K2).mono ?_; rintro _ w3 ⟨rfl, k3⟩))
    go_ret
    exact ⟨by rw [HS.out]; rfl, K2.trans k3 fun _ _ h => h⟩
  case true =>
  go_enter Tryz.func29, Tryz.ntmps29
  go_wp2_with (first
    | (with_reducible refine wpList_ld rfl 24 _ rfl Tryz.isAgg24 3 Tryz.sizeOf24 w.heap.size 2 rfl (txv x.tx) rfl sx2 ?_)
    | (with_reducible refine wpList_ld rfl 24 _ rfl Tryz.isAgg24 3 Tryz.sizeOf24 (w.heap.size + 1) 2 rfl (txv y.tx) rfl sy2 ?_)
    | (with_reducible refine wpList_ld rfl 26 _ rfl Tryz.isAgg26 2 Tryz.sizeOf26 w.heap.size 5 rfl (regv x.reg) rfl sx5 ?_)
    | (with_reducible refine wpList_ld rfl 26 _ rfl Tryz.isAgg26 2 Tryz.sizeOf26 (w.heap.size + 1) 5 rfl (regv y.reg) rfl sy5 ?_)
    | (with_reducible refine wpList_ld rfl 28 _ rfl Tryz.isAgg28 8 Tryz.sizeOf28 w.heap.size 10 rfl (bcells x.key) kx sx10 ?_)
    | (with_reducible refine wpList_ld rfl 28 _ rfl Tryz.isAgg28 8 Tryz.sizeOf28 (w.heap.size + 1) 10 rfl (bcells y.key) ky sy10 ?_)
    | (with_reducible refine wpList_ld rfl 32 _ rfl Tryz.isAgg32 13 Tryz.sizeOf32 w.heap.size 18 rfl (itemv x.item) ix sx18 ?_)
    | (with_reducible refine wpList_ld rfl 32 _ rfl Tryz.isAgg32 13 Tryz.sizeOf32 (w.heap.size + 1) 18 rfl (itemv y.item) iy sy18 ?_)
    | (go_at_call 60; refine HEQ2.out.mono ?_; rintro _ w2 ⟨rfl, k2⟩; have K2 := KK.trans k2 (fun _ _ h => h); have c9 := ((X0.kept k2 (fun h => h)).cell 9).trans (show (recv x xw cw xm cm)[9]? = some (.slice xm x.missing.length cm) from rfl); have d9 := ((Y0.kept k2 (fun h => h)).cell 9).trans (show (recv y yw dw ym dm)[9]? = some (.slice ym y.missing.length dm) from rfl))
    | (go_at_call 68; refine (HEU2.out _ K2).mono ?_; rintro _ w3 ⟨rfl, k3⟩))
  go_ret
  exact ⟨by rw [HS.out]; rfl, K2.trans k3 fun _ _ h => h⟩
end
end Go.Proofs.YtjfmidcaekhhgaaGreatDoor
