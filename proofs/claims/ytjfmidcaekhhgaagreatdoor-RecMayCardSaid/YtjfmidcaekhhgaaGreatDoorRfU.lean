/- The law RecMay, as a walk. Printed by gen_rft.py. -/
import Derived.Test.YtjfmidcaekhhgaaGreatDoorRfR
import Derived.Test.YtjfmidcaekhhgaaGreatDoorRcW
namespace Go.Proofs.YtjfmidcaekhhgaaGreatDoor
open Go.RowKit Go.PM
section
variable {w : World}
set_option maxRecDepth 100000 in
set_option maxHeartbeats 4000000 in
theorem recMay_calls (x y : PRec) (hx : x.Wf) (hy : y.Wf) (sx : x.Sm) (sy : y.Sm) (aw : Option Addr) (cw : Nat) (am : Option Addr) (cm : Nat) (bw : Option Addr) (dw : Nat) (bm : Option Addr) (dm : Nat)
    (hxw : Rd w aw (pwsv x.writes)) (hxm : Rd w am (ucells x.missing)) (hyw : Rd w bw (pwsv y.writes)) (hym : Rd w bm (ucells y.missing)) (haw : ∀ q, At aw q → q < w.heap.size) (ham : ∀ q, At am q → q < w.heap.size) (hbw : ∀ q, At bw q → q < w.heap.size) (hbm : ∀ q, At bm q → q < w.heap.size) (hc : x.writes.length ≤ cw) (hd : y.writes.length ≤ dw) :
    Calls Tryz.prog 6 #[.agg (recv x aw cw am cm).toArray, .agg (recv y bw dw bm dm).toArray] w fun e w' => e = .returned (.bool true) ∧ Kept No w w' := by
  have B0 := (Blk.new w 50 (recv x aw cw am cm)).alloc (.cells (recv y bw dw bm dm).toArray 50)
  have D0 := Blk.new' (w := w.alloc (.cells (recv x aw cw am cm).toArray 50)) (g := w.heap.size + 1) (by rw [World.size_alloc]) 50 (recv y bw dw bm dm)
  have K0 := ((Kept.refl No w).alloc (.cells (recv x aw cw am cm).toArray 50)).alloc (.cells (recv y bw dw bm dm).toArray 50)
  have lx := recv_length hx aw cw am cm
  have ly := recv_length hy bw dw bm dm
  have s0 := B0.seg0
  have HA := Lib.hid fun w => ralive_calls (w := w)
  have HTx := Lib.hid fun w => rtheirs_calls (w := w) x hx aw cw am cm
  have HTy := Lib.hid fun w => rtheirs_calls (w := w) y hy bw dw bm dm
  have HLx := Lib.hid fun (w' : World) (k : Kept No w w') => rlong_calls (w := w') x hx sx aw cw am cm (hxw.keptNo k) (hxm.keptNo k) (fun q hq => k.lt (haw q hq)) (fun q hq => k.lt (ham q hq)) hc
  have HLy := Lib.hid fun (w' : World) (k : Kept No w w') => rlong_calls (w := w') y hy sy bw dw bm dm (hyw.keptNo k) (hym.keptNo k) (fun q hq => k.lt (hbw q hq)) (fun q hq => k.lt (hbm q hq)) hd
  have HM := Lib.hid fun (w' : World) (k : Kept No w w') => rMay_calls (w := w') (aw := aw) (am := am) (cw := cw) (cm := cm) x hx sx (hxw.keptNo k) (hxm.keptNo k) (fun q hq => k.lt (haw q hq)) fun q hq => k.lt (ham q hq)
  have HR := Lib.hid fun (w' : World) (k : Kept No w w') => refMay_rec (w := w') x hx sx aw cw am cm (hxw.keptNo k) (hxm.keptNo k) (fun q hq => k.lt (haw q hq)) fun q hq => k.lt (ham q hq)
  have HS := Lib.hid fun (w' : World) (k : Kept No w w') => rsame_calls (w := w') x y aw am bw bm cw cm dw dm hx hy sx sy (hxw.keptNo k) (hxm.keptNo k) (hyw.keptNo k) (hym.keptNo k)
  have HSR := Lib.hid fun (w' : World) (k : Kept No w w') => refRSame_calls (w := w') x y aw am bw bm cw cm dw dm hx hy sx sy (hxw.keptNo k) (hxm.keptNo k) (hyw.keptNo k) (hym.keptNo k)
  have HSS := Lib.hid fun (w' : World) (k : Kept No w w') => (show Calls Tryz.prog 29 #[.agg (recv x aw cw am cm).toArray, .agg (recv x aw cw am cm).toArray] w' fun e w'' => e = .returned (.bool true) ∧ Kept No w' w'' from by
    have h := rsame_calls (w := w') x x aw am aw am cw cm cw cm hx hx sx sx (hxw.keptNo k) (hxm.keptNo k) (hxw.keptNo k) (hxm.keptNo k)
    rw [sameR_self] at h; exact h)
  generalize rMay x = mx at *
  generalize sameR x y = sm at *
  cases hl : rlongB x
  case true =>
    rw [hl] at HLx
    go_enter Tryz.func6, Tryz.ntmps6
    go_wp2_with (with_reducible refine wpList_ld rfl 50 _ rfl Tryz.isAgg50 31 Tryz.sizeOf50 w.heap.size 0 rfl (recv x aw cw am cm) lx s0 ?_)
    refine (HLx.out _ K0).mono ?_
    rintro _ w1 ⟨rfl, k1⟩
    go_wp2_with fail
    refine (HA.out _).mono ?_
    rintro _ w2 ⟨rfl, k2⟩
    go_wp2_with fail
    go_ret
    exact ⟨rfl, (K0.trans k1 fun _ _ h => h).trans k2 fun _ _ h => h⟩
  rw [hl] at HLx
  cases hl2 : rlongB y
  case true =>
    rw [hl2] at HLy
    go_enter Tryz.func6, Tryz.ntmps6
    go_wp2_with (with_reducible refine wpList_ld rfl 50 _ rfl Tryz.isAgg50 31 Tryz.sizeOf50 w.heap.size 0 rfl (recv x aw cw am cm) lx s0 ?_)
    refine (HLx.out _ K0).mono ?_
    rintro _ w1 ⟨rfl, k1⟩
    have D1 := D0.kept k1 fun h => h
    have t1 := D1.seg0
    go_wp2_with (with_reducible refine wpList_ld rfl 50 _ rfl Tryz.isAgg50 31 Tryz.sizeOf50 (w.heap.size + 1) 0 rfl (recv y bw dw bm dm) ly t1 ?_)
    refine (HLy.out _ (K0.trans k1 fun _ _ h => h)).mono ?_
    rintro _ w3 ⟨rfl, k3⟩
    go_wp2_with fail
    refine (HA.out _).mono ?_
    rintro _ w2 ⟨rfl, k2⟩
    go_wp2_with fail
    go_ret
    exact ⟨rfl, ((K0.trans k1 fun _ _ h => h).trans k3 fun _ _ h => h).trans k2 fun _ _ h => h⟩
  rw [hl2] at HLy
  go_enter Tryz.func6, Tryz.ntmps6
  go_wp2_with (with_reducible refine wpList_ld rfl 50 _ rfl Tryz.isAgg50 31 Tryz.sizeOf50 w.heap.size 0 rfl (recv x aw cw am cm) lx s0 ?_)
  refine (HLx.out _ K0).mono ?_
  rintro _ w1 ⟨rfl, k1⟩
  have D1 := D0.kept k1 fun h => h
  have B1 := B0.kept k1 fun h => h
  have t1 := D1.seg0
  have K1 := K0.trans k1 fun _ _ h => h
  go_wp2_with (with_reducible refine wpList_ld rfl 50 _ rfl Tryz.isAgg50 31 Tryz.sizeOf50 (w.heap.size + 1) 0 rfl (recv y bw dw bm dm) ly t1 ?_)
  refine (HLy.out _ K1).mono ?_
  rintro _ w2 ⟨rfl, k2⟩
  have D2 := D1.kept k2 fun h => h
  have B2 := B1.kept k2 fun h => h
  have K2 := K1.trans k2 fun _ _ h => h
  clear D1 B1 t1 K1 D0 B0 s0 K0 k1 k2 HLx HLy hl hl2 hxw hxm hyw hym haw ham hbw hbm
  go_wp2_with fail
  (try simp only [List.append_eq, List.cons_append, List.nil_append])
  refine wp_region_held_drew (S := fun w' => Blk w' w.heap.size 50 (recv x aw cw am cm) ∧ Blk w' (w.heap.size + 1) 50 (recv y bw dw bm dm) ∧ Kept No w w') (by kernel_rfl) (⟨B2, D2, K2.drew⟩) (fun hHeld => ?_)
  refine wpAnyH_take (i := 0) (oi := _) (v := ?_) rfl (by kernel_rfl) (by kernel_rfl) (by kernel_rfl) (fun _ _ _ h => h) (Or.inl ⟨by rfl, ?_⟩) (by assumption) ?_
  rotate_left
  · intro wv hSw; refine ld_val 50 ?lx1 ?l11 Tryz.isAgg50 31 Tryz.sizeOf50 w.heap.size 0 ?l21 (recv x aw cw am cm) lx (hSw.1.seg0); (case l11 => rfl); (case l21 => rfl)
  (try simp only [List.getElem_toArray, List.getElem_cons_zero, Act.put, List.setIfInBounds_toArray, List.set_cons_zero, List.set_cons_succ])
  refine wpAnyH_take (i := 3) (oi := _) (v := ?_) rfl (by kernel_rfl) (by kernel_rfl) (by kernel_rfl) (fun _ _ _ h => h) (Or.inl ⟨by rfl, ?_⟩) (by assumption) ?_
  rotate_left
  · intro wv hSw; refine ld_val 50 ?lx2 ?l12 Tryz.isAgg50 31 Tryz.sizeOf50 w.heap.size 0 ?l22 (recv x aw cw am cm) lx (hSw.1.seg0); (case l12 => rfl); (case l22 => rfl)
  (try simp only [List.getElem_toArray, List.getElem_cons_zero, List.getElem_cons_succ, Act.put, List.setIfInBounds_toArray, List.set_cons_zero, List.set_cons_succ])
  refine wpAnyH_ready (rs := [1]) (by kernel_rfl) (by simp) ?_
  refine AllReadyH.cons (o := _) rfl (fun K hK => ?_) AllReadyH.nil
  go_simp
  go_at_call 17; refine (HTx.out _).mono ?_; rintro _ v1 ⟨rfl, h1⟩
  (try go_wp2_with fail)
  refine hK.out _ _ (⟨hHeld.1.kept h1 (fun h => h), hHeld.2.1.kept h1 (fun h => h), hHeld.2.2.trans h1 fun _ _ h => h⟩) (fun hHeld => ?_)
  clear hK K
  (try simp only [List.getElem_toArray, List.getElem_cons_zero, List.getElem_cons_succ, Act.put, List.setIfInBounds_toArray, List.set_cons_zero, List.set_cons_succ])
  refine wpAnyH_ready (rs := [2]) (by kernel_rfl) (by simp) ?_
  refine AllReadyH.cons (o := _) rfl (fun K hK => ?_) AllReadyH.nil
  go_simp
  go_at_call 27; refine (HM.out _ hHeld.2.2).mono ?_; rintro _ v2 ⟨rfl, h2⟩
  (try go_wp2_with fail)
  refine hK.out _ _ (⟨hHeld.1.kept h2 (fun h => h), hHeld.2.1.kept h2 (fun h => h), hHeld.2.2.trans h2 fun _ _ h => h⟩) (fun hHeld => ?_)
  clear hK K
  (try simp only [List.getElem_toArray, List.getElem_cons_zero, List.getElem_cons_succ, Act.put, List.setIfInBounds_toArray, List.set_cons_zero, List.set_cons_succ])
  refine wpAnyH_ready (rs := [4]) (by kernel_rfl) (by simp) ?_
  refine AllReadyH.cons (o := _) rfl (fun K hK => ?_) AllReadyH.nil
  go_simp
  go_at_call 28; refine (HR.out _ hHeld.2.2).mono ?_; rintro _ v3 ⟨rfl, h3⟩
  (try go_wp2_with fail)
  refine hK.out _ _ (⟨hHeld.1.kept h3 (fun h => h), hHeld.2.1.kept h3 (fun h => h), hHeld.2.2.trans h3 fun _ _ h => h⟩) (fun hHeld => ?_)
  clear hK K
  (try simp only [List.getElem_toArray, List.getElem_cons_zero, List.getElem_cons_succ, Act.put, List.setIfInBounds_toArray, List.set_cons_zero, List.set_cons_succ])
  refine wpAnyH_take (i := 5) (oi := _) (v := ?_) rfl (by kernel_rfl) (by kernel_rfl) (by kernel_rfl) (fun _ _ _ h => h) (Or.inl ⟨by rfl, ?_⟩) (by assumption) ?_
  rotate_left
  · intro wv hSw; (try dsimp only at hSw); go_simp; (try with_reducible rfl)
  (try simp only [List.getElem_toArray, List.getElem_cons_zero, List.getElem_cons_succ, Act.put, List.setIfInBounds_toArray, List.set_cons_zero, List.set_cons_succ])
  refine wpAnyH_take (i := 6) (oi := _) (v := ?_) rfl (by kernel_rfl) (by kernel_rfl) (by kernel_rfl) (fun _ _ _ h => h) (Or.inl ⟨by rfl, ?_⟩) (by assumption) ?_
  rotate_left
  · intro wv hSw; (try dsimp only at hSw); go_simp; (try with_reducible rfl)
  (try simp only [List.getElem_toArray, List.getElem_cons_zero, List.getElem_cons_succ, Act.put, List.setIfInBounds_toArray, List.set_cons_zero, List.set_cons_succ])
  refine wpAnyH_take (i := 7) (oi := _) (v := ?_) rfl (by kernel_rfl) (by kernel_rfl) (by kernel_rfl) (fun _ _ _ h => h) (Or.inl ⟨by rfl, ?_⟩) (by assumption) ?_
  rotate_left
  · intro wv hSw; refine ld_val 50 ?lx3 ?l13 Tryz.isAgg50 31 Tryz.sizeOf50 w.heap.size 0 ?l23 (recv x aw cw am cm) lx (hSw.1.seg0); (case l13 => rfl); (case l23 => rfl)
  (try simp only [List.getElem_toArray, List.getElem_cons_zero, List.getElem_cons_succ, Act.put, List.setIfInBounds_toArray, List.set_cons_zero, List.set_cons_succ])
  refine wpAnyH_take (i := 9) (oi := _) (v := ?_) rfl (by kernel_rfl) (by kernel_rfl) (by kernel_rfl) (fun _ _ _ h => h) (Or.inl ⟨by rfl, ?_⟩) (by assumption) ?_
  rotate_left
  · intro wv hSw; refine ld_val 50 ?lx4 ?l14 Tryz.isAgg50 31 Tryz.sizeOf50 (w.heap.size + 1) 0 ?l24 (recv y bw dw bm dm) ly (hSw.2.1.seg0); (case l14 => rfl); (case l24 => rfl)
  (try simp only [List.getElem_toArray, List.getElem_cons_zero, List.getElem_cons_succ, Act.put, List.setIfInBounds_toArray, List.set_cons_zero, List.set_cons_succ])
  refine wpAnyH_take (i := 12) (oi := _) (v := ?_) rfl (by kernel_rfl) (by kernel_rfl) (by kernel_rfl) (fun _ _ _ h => h) (Or.inl ⟨by rfl, ?_⟩) (by assumption) ?_
  rotate_left
  · intro wv hSw; refine ld_val 50 ?lx5 ?l15 Tryz.isAgg50 31 Tryz.sizeOf50 w.heap.size 0 ?l25 (recv x aw cw am cm) lx (hSw.1.seg0); (case l15 => rfl); (case l25 => rfl)
  (try simp only [List.getElem_toArray, List.getElem_cons_zero, List.getElem_cons_succ, Act.put, List.setIfInBounds_toArray, List.set_cons_zero, List.set_cons_succ])
  refine wpAnyH_take (i := 13) (oi := _) (v := ?_) rfl (by kernel_rfl) (by kernel_rfl) (by kernel_rfl) (fun _ _ _ h => h) (Or.inl ⟨by rfl, ?_⟩) (by assumption) ?_
  rotate_left
  · intro wv hSw; refine ld_val 50 ?lx6 ?l16 Tryz.isAgg50 31 Tryz.sizeOf50 (w.heap.size + 1) 0 ?l26 (recv y bw dw bm dm) ly (hSw.2.1.seg0); (case l16 => rfl); (case l26 => rfl)
  (try simp only [List.getElem_toArray, List.getElem_cons_zero, List.getElem_cons_succ, Act.put, List.setIfInBounds_toArray, List.set_cons_zero, List.set_cons_succ])
  refine wpAnyH_ready (rs := [8]) (by kernel_rfl) (by simp) ?_
  refine AllReadyH.cons (o := _) rfl (fun K hK => ?_) AllReadyH.nil
  go_simp
  go_at_call 17; refine (HTx.out _).mono ?_; rintro _ v4 ⟨rfl, h4⟩
  (try go_wp2_with fail)
  refine hK.out _ _ (⟨hHeld.1.kept h4 (fun h => h), hHeld.2.1.kept h4 (fun h => h), hHeld.2.2.trans h4 fun _ _ h => h⟩) (fun hHeld => ?_)
  clear hK K
  (try simp only [List.getElem_toArray, List.getElem_cons_zero, List.getElem_cons_succ, Act.put, List.setIfInBounds_toArray, List.set_cons_zero, List.set_cons_succ])
  refine wpAnyH_ready (rs := [10]) (by kernel_rfl) (by simp) ?_
  refine AllReadyH.cons (o := _) rfl (fun K hK => ?_) AllReadyH.nil
  go_simp
  go_at_call 17; refine (HTy.out _).mono ?_; rintro _ v5 ⟨rfl, h5⟩
  (try go_wp2_with fail)
  refine hK.out _ _ (⟨hHeld.1.kept h5 (fun h => h), hHeld.2.1.kept h5 (fun h => h), hHeld.2.2.trans h5 fun _ _ h => h⟩) (fun hHeld => ?_)
  clear hK K
  (try simp only [List.getElem_toArray, List.getElem_cons_zero, List.getElem_cons_succ, Act.put, List.setIfInBounds_toArray, List.set_cons_zero, List.set_cons_succ])
  refine wpAnyH_ready (rs := [11]) (by kernel_rfl) (by simp) ?_
  refine AllReadyH.cons (o := _) rfl (fun K hK => ?_) AllReadyH.nil
  go_simp
  go_at_call 29; refine (HS.out _ hHeld.2.2).mono ?_; rintro _ v6 ⟨rfl, h6⟩
  (try go_wp2_with fail)
  refine hK.out _ _ (⟨hHeld.1.kept h6 (fun h => h), hHeld.2.1.kept h6 (fun h => h), hHeld.2.2.trans h6 fun _ _ h => h⟩) (fun hHeld => ?_)
  clear hK K
  (try simp only [List.getElem_toArray, List.getElem_cons_zero, List.getElem_cons_succ, Act.put, List.setIfInBounds_toArray, List.set_cons_zero, List.set_cons_succ])
  refine wpAnyH_ready (rs := [14]) (by kernel_rfl) (by simp) ?_
  refine AllReadyH.cons (o := _) rfl (fun K hK => ?_) AllReadyH.nil
  go_simp
  go_at_call 30; refine (HSR.out _ hHeld.2.2).mono ?_; rintro _ v7 ⟨rfl, h7⟩
  (try go_wp2_with fail)
  refine hK.out _ _ (⟨hHeld.1.kept h7 (fun h => h), hHeld.2.1.kept h7 (fun h => h), hHeld.2.2.trans h7 fun _ _ h => h⟩) (fun hHeld => ?_)
  clear hK K
  (try simp only [List.getElem_toArray, List.getElem_cons_zero, List.getElem_cons_succ, Act.put, List.setIfInBounds_toArray, List.set_cons_zero, List.set_cons_succ])
  refine wpAnyH_take (i := 15) (oi := _) (v := ?_) rfl (by kernel_rfl) (by kernel_rfl) (by kernel_rfl) (fun _ _ _ h => h) (Or.inl ⟨by rfl, ?_⟩) (by assumption) ?_
  rotate_left
  · intro wv hSw; (try dsimp only at hSw); go_simp; (try with_reducible rfl)
  (try simp only [List.getElem_toArray, List.getElem_cons_zero, List.getElem_cons_succ, Act.put, List.setIfInBounds_toArray, List.set_cons_zero, List.set_cons_succ])
  refine wpAnyH_take (i := 16) (oi := _) (v := ?_) rfl (by kernel_rfl) (by kernel_rfl) (by kernel_rfl) (fun _ _ _ h => h) (Or.inl ⟨by rfl, ?_⟩) (by assumption) ?_
  rotate_left
  · intro wv hSw; (try dsimp only at hSw); go_simp; (try with_reducible rfl)
  (try simp only [List.getElem_toArray, List.getElem_cons_zero, List.getElem_cons_succ, Act.put, List.setIfInBounds_toArray, List.set_cons_zero, List.set_cons_succ])
  refine wpAnyH_take (i := 17) (oi := _) (v := ?_) rfl (by kernel_rfl) (by kernel_rfl) (by kernel_rfl) (fun _ _ _ h => h) (Or.inl ⟨by rfl, ?_⟩) (by assumption) ?_
  rotate_left
  · intro wv hSw; (try dsimp only at hSw); go_simp; (try with_reducible rfl)
  (try simp only [List.getElem_toArray, List.getElem_cons_zero, List.getElem_cons_succ, Act.put, List.setIfInBounds_toArray, List.set_cons_zero, List.set_cons_succ])
  refine wpAnyH_take (i := 18) (oi := _) (v := ?_) rfl (by kernel_rfl) (by kernel_rfl) (by kernel_rfl) (fun _ _ _ h => h) (Or.inl ⟨by rfl, ?_⟩) (by assumption) ?_
  rotate_left
  · intro wv hSw; refine ld_val 50 ?lx7 ?l17 Tryz.isAgg50 31 Tryz.sizeOf50 w.heap.size 0 ?l27 (recv x aw cw am cm) lx (hSw.1.seg0); (case l17 => rfl); (case l27 => rfl)
  (try simp only [List.getElem_toArray, List.getElem_cons_zero, List.getElem_cons_succ, Act.put, List.setIfInBounds_toArray, List.set_cons_zero, List.set_cons_succ])
  refine wpAnyH_take (i := 20) (oi := _) (v := ?_) rfl (by kernel_rfl) (by kernel_rfl) (by kernel_rfl) (fun _ _ _ h => h) (Or.inl ⟨by rfl, ?_⟩) (by assumption) ?_
  rotate_left
  · intro wv hSw; refine ld_val 50 ?lx8 ?l18 Tryz.isAgg50 31 Tryz.sizeOf50 w.heap.size 0 ?l28 (recv x aw cw am cm) lx (hSw.1.seg0); (case l18 => rfl); (case l28 => rfl)
  (try simp only [List.getElem_toArray, List.getElem_cons_zero, List.getElem_cons_succ, Act.put, List.setIfInBounds_toArray, List.set_cons_zero, List.set_cons_succ])
  refine wpAnyH_ready (rs := [19]) (by kernel_rfl) (by simp) ?_
  refine AllReadyH.cons (o := _) rfl (fun K hK => ?_) AllReadyH.nil
  go_simp
  go_at_call 17; refine (HTx.out _).mono ?_; rintro _ v8 ⟨rfl, h8⟩
  (try go_wp2_with fail)
  refine hK.out _ _ (⟨hHeld.1.kept h8 (fun h => h), hHeld.2.1.kept h8 (fun h => h), hHeld.2.2.trans h8 fun _ _ h => h⟩) (fun hHeld => ?_)
  clear hK K
  (try simp only [List.getElem_toArray, List.getElem_cons_zero, List.getElem_cons_succ, Act.put, List.setIfInBounds_toArray, List.set_cons_zero, List.set_cons_succ])
  refine wpAnyH_ready (rs := [21]) (by kernel_rfl) (by simp) ?_
  refine AllReadyH.cons (o := _) rfl (fun K hK => ?_) AllReadyH.nil
  go_simp
  go_at_call 17; refine (HTx.out _).mono ?_; rintro _ v9 ⟨rfl, h9⟩
  (try go_wp2_with fail)
  refine hK.out _ _ (⟨hHeld.1.kept h9 (fun h => h), hHeld.2.1.kept h9 (fun h => h), hHeld.2.2.trans h9 fun _ _ h => h⟩) (fun hHeld => ?_)
  clear hK K
  (try simp only [List.getElem_toArray, List.getElem_cons_zero, List.getElem_cons_succ, Act.put, List.setIfInBounds_toArray, List.set_cons_zero, List.set_cons_succ])
  refine wpAnyH_ready (rs := [22]) (by kernel_rfl) (by simp) ?_
  refine AllReadyH.cons (o := _) rfl (fun K hK => ?_) AllReadyH.nil
  go_simp
  go_at_call 29; refine (HSS.out _ hHeld.2.2).mono ?_; rintro _ v10 ⟨rfl, h10⟩
  (try go_wp2_with fail)
  refine hK.out _ _ (⟨hHeld.1.kept h10 (fun h => h), hHeld.2.1.kept h10 (fun h => h), hHeld.2.2.trans h10 fun _ _ h => h⟩) (fun hHeld => ?_)
  clear hK K
  (try simp only [List.getElem_toArray, List.getElem_cons_zero, List.getElem_cons_succ, Act.put, List.setIfInBounds_toArray, List.set_cons_zero, List.set_cons_succ])
  refine wpAnyH_take (i := 23) (oi := _) (v := ?_) rfl (by kernel_rfl) (by kernel_rfl) (by kernel_rfl) (fun _ _ _ h => h) (Or.inl ⟨by rfl, ?_⟩) (by assumption) ?_
  rotate_left
  · intro wv hSw; (try dsimp only at hSw); go_simp; (try with_reducible rfl)
  (try simp only [List.getElem_toArray, List.getElem_cons_zero, List.getElem_cons_succ, Act.put, List.setIfInBounds_toArray, List.set_cons_zero, List.set_cons_succ])
  refine wpAnyH_take (i := 24) (oi := _) (v := ?_) rfl (by kernel_rfl) (by kernel_rfl) (by kernel_rfl) (fun _ _ _ h => h) (Or.inl ⟨by rfl, ?_⟩) (by assumption) ?_
  rotate_left
  · intro wv hSw; (try dsimp only at hSw); go_simp; (try with_reducible rfl)
  (try simp only [List.getElem_toArray, List.getElem_cons_zero, List.getElem_cons_succ, Act.put, List.setIfInBounds_toArray, List.set_cons_zero, List.set_cons_succ])
  refine wpAnyH_ready (rs := [25]) (by kernel_rfl) (by simp) ?_
  refine AllReadyH.cons (o := _) rfl (fun K hK => ?_) AllReadyH.nil
  go_simp
  go_at_call 15; refine (HA.out _).mono ?_; rintro _ v11 ⟨rfl, h11⟩
  (try go_wp2_with fail)
  refine hK.out _ _ (⟨hHeld.1.kept h11 (fun h => h), hHeld.2.1.kept h11 (fun h => h), hHeld.2.2.trans h11 fun _ _ h => h⟩) (fun hHeld => ?_)
  clear hK K
  (try simp only [List.getElem_toArray, List.getElem_cons_zero, List.getElem_cons_succ, Act.put, List.setIfInBounds_toArray, List.set_cons_zero, List.set_cons_succ])
  refine wpAnyH_take (i := 26) (oi := _) (v := ?_) rfl (by kernel_rfl) (by kernel_rfl) (by kernel_rfl) (fun _ _ _ h => h) (Or.inl ⟨by rfl, ?_⟩) (by assumption) ?_
  rotate_left
  · intro wv hSw; (try dsimp only at hSw); go_simp; (try with_reducible rfl)
  (try simp only [List.getElem_toArray, List.getElem_cons_zero, List.getElem_cons_succ, Act.put, List.setIfInBounds_toArray, List.set_cons_zero, List.set_cons_succ])
  refine wpAnyH_take (i := 27) (oi := _) (v := ?_) rfl (by kernel_rfl) (by kernel_rfl) (by kernel_rfl) (fun _ _ _ h => h) (Or.inl ⟨by rfl, ?_⟩) (by assumption) ?_
  rotate_left
  · intro wv hSw; (try dsimp only at hSw); go_simp; (try with_reducible rfl)
  (try simp only [List.getElem_toArray, List.getElem_cons_zero, List.getElem_cons_succ, Act.put, List.setIfInBounds_toArray, List.set_cons_zero, List.set_cons_succ])
  refine wpAnyH_done (by kernel_rfl) ?_ _

  go_wp2
  go_ret
  exact ⟨rfl, hHeld.2.2⟩
end
end Go.Proofs.YtjfmidcaekhhgaaGreatDoor
