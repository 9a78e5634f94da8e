/- The law MsgMay, as a walk. Printed by gen_rfo.py. -/
import Derived.Test.YtjfmidcaekhhgaaGreatDoorRfM
import Derived.Test.YtjfmidcaekhhgaaGreatDoorMsAl
namespace Go.Proofs.YtjfmidcaekhhgaaGreatDoor
open Go.RowKit Go.PM
section
variable {w : World}
set_option maxRecDepth 100000 in
set_option maxHeartbeats 4000000 in
theorem msgMay_calls (x y : PMsg) (hx : x.Wf) (hy : y.Wf) (sx : x.Sm) (sy : y.Sm) (a b : Option Addr) (c d : Nat) (hra : Rd w a (pwsv x.writes)) (hrb : Rd w b (pwsv y.writes)) (hat : ∀ q, At a q → q < w.heap.size) (hbt : ∀ q, At b q → q < w.heap.size) (hc : x.writes.length ≤ c) (hd : y.writes.length ≤ d) :
    Calls Tryz.prog 5 #[.agg (msgv x a c).toArray, .agg (msgv y b d).toArray] w fun e w' => e = .returned (.bool true) ∧ Kept No w w' := by
  have B0 := (Blk.new w 35 (msgv x a c)).alloc (.cells (msgv y b d).toArray 35)
  have D0 := Blk.new' (w := w.alloc (.cells (msgv x a c).toArray 35)) (g := w.heap.size + 1) (by rw [World.size_alloc]) 35 (msgv y b d)
  have K0 := ((Kept.refl No w).alloc (.cells (msgv x a c).toArray 35)).alloc (.cells (msgv y b d).toArray 35)
  have lx := msgv_length hx a c
  have ly := msgv_length hy b d
  have li := itemv_length hx.item
  have s0 := B0.seg0
  have HA := Lib.hid fun w => alive_calls (w := w)
  have HTx := Lib.hid fun w => theirs_calls (w := w) x hx a c
  have HTy := Lib.hid fun w => theirs_calls (w := w) y hy b d
  have HLx := Lib.hid fun (w' : World) (k : Kept No w w') => mlong_calls (w := w') x hx sx a c (hra.keptNo k) (fun q hq => k.lt (hat q hq)) hc
  have HLy := Lib.hid fun (w' : World) (k : Kept No w w') => mlong_calls (w := w') y hy sy b d (hrb.keptNo k) (fun q hq => k.lt (hbt q hq)) hd
  have HM := Lib.hid fun (w' : World) (k : Kept No w w') => mMay_calls (w := w') (c := c) x hx sx (hra.keptNo k) fun q hq => k.lt (hat q hq)
  have HR := Lib.hid fun (w' : World) (k : Kept No w w') => refMay_msg (w := w') x hx sx a c (hra.keptNo k) fun q hq => k.lt (hat q hq)
  have HI := Lib.hid fun w => itemMay_calls (w := w) x.item hx.item sx.item
  have HIR := Lib.hid fun w => refItemMay_calls (w := w) x.item hx.item sx.item
  have HW := Lib.hid fun (w' : World) (k : Kept No w w') => writesMay_calls (w := w') x.writes x.writes.length rfl a c hx.writes sx.each (hra.keptNo k) sx.many
  have HWR := Lib.hid fun (w' : World) (k : Kept No w w') => refWritesMay_calls (w := w') x.writes x.writes.length rfl a c hx.writes sx.each (hra.keptNo k) sx.many
  have HS := Lib.hid fun (w' : World) (k : Kept No w w') => same_calls (w := w') x y a b c d hx hy sx sy (hra.keptNo k) (hrb.keptNo k) (fun q hq => k.lt (hat q hq)) fun q hq => k.lt (hbt q hq)
  have HSR := Lib.hid fun (w' : World) (k : Kept No w w') => refSame_calls (w := w') x y a b c d hx hy sx sy (hra.keptNo k) (hrb.keptNo k)
  have HSS := Lib.hid fun (w' : World) (k : Kept No w w') => (show Calls Tryz.prog 25 #[.agg (msgv x a c).toArray, .agg (msgv x a c).toArray] w' fun e w'' => e = .returned (.bool true) ∧ Kept No w' w'' from by
    have h := same_calls (w := w') x x a a c c hx hx sx sx (hra.keptNo k) (hra.keptNo k) (fun q hq => k.lt (hat q hq)) fun q hq => k.lt (hat q hq)
    rw [sameM_self] at h; exact h)
  generalize mMay x = mx at *
  generalize itemMay x.item = ix at *
  generalize writesMay x.writes = wx at *
  generalize sameM x y = sm at *
  cases hl : longB x
  case true =>
    rw [hl] at HLx
    go_enter Tryz.func5, Tryz.ntmps5
    go_wp2_with (with_reducible refine wpList_ld rfl 35 _ rfl Tryz.isAgg35 33 Tryz.sizeOf35 w.heap.size 0 rfl (msgv x a c) lx s0 ?_)
    refine (HLx.out _ K0).mono ?_
    rintro _ w1 ⟨rfl, k1⟩
    go_wp2_with fail
    refine (HA.out _).mono ?_
    rintro _ w2 ⟨rfl, k2⟩
    go_wp2_with fail
    go_ret
    exact ⟨rfl, (K0.trans k1 fun _ _ h => h).trans k2 fun _ _ h => h⟩
  rw [hl] at HLx
  cases hl2 : longB y
  case true =>
    rw [hl2] at HLy
    go_enter Tryz.func5, Tryz.ntmps5
    go_wp2_with (with_reducible refine wpList_ld rfl 35 _ rfl Tryz.isAgg35 33 Tryz.sizeOf35 w.heap.size 0 rfl (msgv x a c) lx s0 ?_)
    refine (HLx.out _ K0).mono ?_
    rintro _ w1 ⟨rfl, k1⟩
    have D1 := D0.kept k1 fun h => h
    have t1 := D1.seg0
    go_wp2_with (with_reducible refine wpList_ld rfl 35 _ rfl Tryz.isAgg35 33 Tryz.sizeOf35 (w.heap.size + 1) 0 rfl (msgv y b d) ly t1 ?_)
    refine (HLy.out _ (K0.trans k1 fun _ _ h => h)).mono ?_
    rintro _ w3 ⟨rfl, k3⟩
    go_wp2_with fail
    refine (HA.out _).mono ?_
    rintro _ w2 ⟨rfl, k2⟩
    go_wp2_with fail
    go_ret
    exact ⟨rfl, ((K0.trans k1 fun _ _ h => h).trans k3 fun _ _ h => h).trans k2 fun _ _ h => h⟩
  rw [hl2] at HLy
  go_enter Tryz.func5, Tryz.ntmps5
  go_wp2_with (with_reducible refine wpList_ld rfl 35 _ rfl Tryz.isAgg35 33 Tryz.sizeOf35 w.heap.size 0 rfl (msgv x a c) lx s0 ?_)
  refine (HLx.out _ K0).mono ?_
  rintro _ w1 ⟨rfl, k1⟩
  have D1 := D0.kept k1 fun h => h
  have B1 := B0.kept k1 fun h => h
  have t1 := D1.seg0
  have K1 := K0.trans k1 fun _ _ h => h
  go_wp2_with (with_reducible refine wpList_ld rfl 35 _ rfl Tryz.isAgg35 33 Tryz.sizeOf35 (w.heap.size + 1) 0 rfl (msgv y b d) ly t1 ?_)
  refine (HLy.out _ K1).mono ?_
  rintro _ w2 ⟨rfl, k2⟩
  have D2 := D1.kept k2 fun h => h
  have B2 := B1.kept k2 fun h => h
  have K2 := K1.trans k2 fun _ _ h => h
  clear D1 B1 t1 K1 D0 B0 s0 K0 k1 k2 HLx HLy hl hl2 hra hrb hat hbt
  go_wp2_with fail
  (try simp only [List.append_eq, List.cons_append, List.nil_append])
  refine wp_region_held_drew (S := fun w' => Blk w' w.heap.size 35 (msgv x a c) ∧ Blk w' (w.heap.size + 1) 35 (msgv y b d) ∧ Kept No w w') (by kernel_rfl) (⟨B2, D2, K2.drew⟩) (fun hHeld => ?_)
  refine wpAnyH_take (i := 0) (oi := _) (v := ?_) rfl (by kernel_rfl) (by kernel_rfl) (by kernel_rfl) (fun _ _ _ h => h) (Or.inl ⟨by rfl, ?_⟩) (by assumption) ?_
  rotate_left
  · intro wv hSw; refine ld_val 35 ?lx1 ?l11 Tryz.isAgg35 33 Tryz.sizeOf35 w.heap.size 0 ?l21 (msgv x a c) lx (hSw.1.seg0); (case l11 => rfl); (case l21 => rfl)
  (try simp only [List.getElem_toArray, List.getElem_cons_zero, Act.put, List.setIfInBounds_toArray, List.set_cons_zero, List.set_cons_succ])
  refine wpAnyH_take (i := 3) (oi := _) (v := ?_) rfl (by kernel_rfl) (by kernel_rfl) (by kernel_rfl) (fun _ _ _ h => h) (Or.inl ⟨by rfl, ?_⟩) (by assumption) ?_
  rotate_left
  · intro wv hSw; refine ld_val 35 ?lx2 ?l12 Tryz.isAgg35 33 Tryz.sizeOf35 w.heap.size 0 ?l22 (msgv x a c) lx (hSw.1.seg0); (case l12 => rfl); (case l22 => rfl)
  (try simp only [List.getElem_toArray, List.getElem_cons_zero, List.getElem_cons_succ, Act.put, List.setIfInBounds_toArray, List.set_cons_zero, List.set_cons_succ])
  refine wpAnyH_ready (rs := [1]) (by kernel_rfl) (by simp) ?_
  refine AllReadyH.cons (o := _) rfl (fun K hK => ?_) AllReadyH.nil
  go_simp
  go_at_call 11; refine (HTx.out _).mono ?_; rintro _ v1 ⟨rfl, h1⟩
  (try go_wp2_with fail)
  refine hK.out _ _ (⟨hHeld.1.kept h1 (fun h => h), hHeld.2.1.kept h1 (fun h => h), hHeld.2.2.trans h1 fun _ _ h => h⟩) (fun hHeld => ?_)
  clear hK K
  (try simp only [List.getElem_toArray, List.getElem_cons_zero, List.getElem_cons_succ, Act.put, List.setIfInBounds_toArray, List.set_cons_zero, List.set_cons_succ])
  refine wpAnyH_ready (rs := [2]) (by kernel_rfl) (by simp) ?_
  refine AllReadyH.cons (o := _) rfl (fun K hK => ?_) AllReadyH.nil
  go_simp
  go_at_call 19; refine (HM.out _ hHeld.2.2).mono ?_; rintro _ v2 ⟨rfl, h2⟩
  (try go_wp2_with fail)
  refine hK.out _ _ (⟨hHeld.1.kept h2 (fun h => h), hHeld.2.1.kept h2 (fun h => h), hHeld.2.2.trans h2 fun _ _ h => h⟩) (fun hHeld => ?_)
  clear hK K
  (try simp only [List.getElem_toArray, List.getElem_cons_zero, List.getElem_cons_succ, Act.put, List.setIfInBounds_toArray, List.set_cons_zero, List.set_cons_succ])
  refine wpAnyH_ready (rs := [4]) (by kernel_rfl) (by simp) ?_
  refine AllReadyH.cons (o := _) rfl (fun K hK => ?_) AllReadyH.nil
  go_simp
  go_at_call 20; refine (HR.out _ hHeld.2.2).mono ?_; rintro _ v3 ⟨rfl, h3⟩
  (try go_wp2_with fail)
  refine hK.out _ _ (⟨hHeld.1.kept h3 (fun h => h), hHeld.2.1.kept h3 (fun h => h), hHeld.2.2.trans h3 fun _ _ h => h⟩) (fun hHeld => ?_)
  clear hK K
  (try simp only [List.getElem_toArray, List.getElem_cons_zero, List.getElem_cons_succ, Act.put, List.setIfInBounds_toArray, List.set_cons_zero, List.set_cons_succ])
  refine wpAnyH_take (i := 5) (oi := _) (v := ?_) rfl (by kernel_rfl) (by kernel_rfl) (by kernel_rfl) (fun _ _ _ h => h) (Or.inl ⟨by rfl, ?_⟩) (by assumption) ?_
  rotate_left
  · intro wv hSw; (try dsimp only at hSw); go_simp; (try with_reducible rfl)
  (try simp only [List.getElem_toArray, List.getElem_cons_zero, List.getElem_cons_succ, Act.put, List.setIfInBounds_toArray, List.set_cons_zero, List.set_cons_succ])
  refine wpAnyH_take (i := 6) (oi := _) (v := ?_) rfl (by kernel_rfl) (by kernel_rfl) (by kernel_rfl) (fun _ _ _ h => h) (Or.inl ⟨by rfl, ?_⟩) (by assumption) ?_
  rotate_left
  · intro wv hSw; (try dsimp only at hSw); go_simp; (try with_reducible rfl)
  (try simp only [List.getElem_toArray, List.getElem_cons_zero, List.getElem_cons_succ, Act.put, List.setIfInBounds_toArray, List.set_cons_zero, List.set_cons_succ])
  refine wpAnyH_take (i := 7) (oi := _) (v := ?_) rfl (by kernel_rfl) (by kernel_rfl) (by kernel_rfl) (fun _ _ _ h => h) (Or.inl ⟨by rfl, ?_⟩) (by assumption) ?_
  rotate_left
  · intro wv hSw; (try dsimp only at hSw); go_simp; (try with_reducible rfl)
  (try simp only [List.getElem_toArray, List.getElem_cons_zero, List.getElem_cons_succ, Act.put, List.setIfInBounds_toArray, List.set_cons_zero, List.set_cons_succ])
  refine wpAnyH_take (i := 8) (oi := _) (v := ?_) rfl (by kernel_rfl) (by kernel_rfl) (by kernel_rfl) (fun _ _ _ h => h) (Or.inl ⟨by rfl, ?_⟩) (by assumption) ?_
  rotate_left
  · intro wv hSw; refine ld_val 32 ?lx3 ?l13 Tryz.isAgg32 13 Tryz.sizeOf32 w.heap.size 19 ?l23 (itemv x.item) li (hSw.1.seg 19 _ (seg19_of hx a c)); (case l13 => rfl); (case l23 => rfl)
  (try simp only [List.getElem_toArray, List.getElem_cons_zero, List.getElem_cons_succ, Act.put, List.setIfInBounds_toArray, List.set_cons_zero, List.set_cons_succ])
  refine wpAnyH_take (i := 10) (oi := _) (v := ?_) rfl (by kernel_rfl) (by kernel_rfl) (by kernel_rfl) (fun _ _ _ h => h) (Or.inl ⟨by rfl, ?_⟩) (by assumption) ?_
  rotate_left
  · intro wv hSw; (try dsimp only at hSw); go_simp; (try with_reducible rfl)
  (try simp only [List.getElem_toArray, List.getElem_cons_zero, List.getElem_cons_succ, Act.put, List.setIfInBounds_toArray, List.set_cons_zero, List.set_cons_succ])
  refine wpAnyH_take (i := 11) (oi := _) (v := ?_) rfl (by kernel_rfl) (by kernel_rfl) (by kernel_rfl) (fun _ _ _ h => h) (Or.inl ⟨by rfl, ?_⟩) (by assumption) ?_
  rotate_left
  · intro wv hSw; refine ld_val 32 ?lx4 ?l14 Tryz.isAgg32 13 Tryz.sizeOf32 w.heap.size 19 ?l24 (itemv x.item) li (hSw.1.seg 19 _ (seg19_of hx a c)); (case l14 => rfl); (case l24 => rfl)
  (try simp only [List.getElem_toArray, List.getElem_cons_zero, List.getElem_cons_succ, Act.put, List.setIfInBounds_toArray, List.set_cons_zero, List.set_cons_succ])
  refine wpAnyH_ready (rs := [9]) (by kernel_rfl) (by simp) ?_
  refine AllReadyH.cons (o := _) rfl (fun K hK => ?_) AllReadyH.nil
  go_simp
  go_at_call 21; refine (HI.out _).mono ?_; rintro _ v4 ⟨rfl, h4⟩
  (try go_wp2_with fail)
  refine hK.out _ _ (⟨hHeld.1.kept h4 (fun h => h), hHeld.2.1.kept h4 (fun h => h), hHeld.2.2.trans h4 fun _ _ h => h⟩) (fun hHeld => ?_)
  clear hK K
  (try simp only [List.getElem_toArray, List.getElem_cons_zero, List.getElem_cons_succ, Act.put, List.setIfInBounds_toArray, List.set_cons_zero, List.set_cons_succ])
  refine wpAnyH_ready (rs := [12]) (by kernel_rfl) (by simp) ?_
  refine AllReadyH.cons (o := _) rfl (fun K hK => ?_) AllReadyH.nil
  go_simp
  go_at_call 22; refine (HIR.out _).mono ?_; rintro _ v5 ⟨rfl, h5⟩
  (try go_wp2_with fail)
  refine hK.out _ _ (⟨hHeld.1.kept h5 (fun h => h), hHeld.2.1.kept h5 (fun h => h), hHeld.2.2.trans h5 fun _ _ h => h⟩) (fun hHeld => ?_)
  clear hK K
  (try simp only [List.getElem_toArray, List.getElem_cons_zero, List.getElem_cons_succ, Act.put, List.setIfInBounds_toArray, List.set_cons_zero, List.set_cons_succ])
  refine wpAnyH_take (i := 13) (oi := _) (v := ?_) rfl (by kernel_rfl) (by kernel_rfl) (by kernel_rfl) (fun _ _ _ h => h) (Or.inl ⟨by rfl, ?_⟩) (by assumption) ?_
  rotate_left
  · intro wv hSw; (try dsimp only at hSw); go_simp; (try with_reducible rfl)
  (try simp only [List.getElem_toArray, List.getElem_cons_zero, List.getElem_cons_succ, Act.put, List.setIfInBounds_toArray, List.set_cons_zero, List.set_cons_succ])
  refine wpAnyH_take (i := 14) (oi := _) (v := ?_) rfl (by kernel_rfl) (by kernel_rfl) (by kernel_rfl) (fun _ _ _ h => h) (Or.inl ⟨by rfl, ?_⟩) (by assumption) ?_
  rotate_left
  · intro wv hSw; (try dsimp only at hSw); go_simp; (try with_reducible rfl)
  (try simp only [List.getElem_toArray, List.getElem_cons_zero, List.getElem_cons_succ, Act.put, List.setIfInBounds_toArray, List.set_cons_zero, List.set_cons_succ])
  refine wpAnyH_take (i := 15) (oi := _) (v := ?_) rfl (by kernel_rfl) (by kernel_rfl) (by kernel_rfl) (fun _ _ _ h => h) (Or.inl ⟨by rfl, ?_⟩) (by assumption) ?_
  rotate_left
  · intro wv hSw; (try dsimp only at hSw); go_simp; (try with_reducible rfl)
  (try simp only [List.getElem_toArray, List.getElem_cons_zero, List.getElem_cons_succ, Act.put, List.setIfInBounds_toArray, List.set_cons_zero, List.set_cons_succ])
  refine wpAnyH_take (i := 16) (oi := _) (v := ?_) rfl (by kernel_rfl) (by kernel_rfl) (by kernel_rfl) (fun _ _ _ h => h) (Or.inl ⟨by rfl, ?_⟩) (by assumption) ?_
  rotate_left
  · intro wv hSw; (try dsimp only at hSw); go_simp; (try with_reducible rfl)
  (try simp only [List.getElem_toArray, List.getElem_cons_zero, List.getElem_cons_succ, Act.put, List.setIfInBounds_toArray, List.set_cons_zero, List.set_cons_succ])
  refine wpAnyH_take (i := 17) (oi := _) (v := ?_) rfl (by kernel_rfl) (by kernel_rfl) (by kernel_rfl) (fun _ _ _ h => h) (Or.inl ⟨by rfl, ?_⟩) (by assumption) ?_
  rotate_left
  · intro wv hSw; have c32 := (hSw.1.cell 32).trans (cell32_of hx a c); clear hSw; go_simp; (try with_reducible rfl)
  (try simp only [List.getElem_toArray, List.getElem_cons_zero, List.getElem_cons_succ, Act.put, List.setIfInBounds_toArray, List.set_cons_zero, List.set_cons_succ])
  refine wpAnyH_take (i := 19) (oi := _) (v := ?_) rfl (by kernel_rfl) (by kernel_rfl) (by kernel_rfl) (fun _ _ _ h => h) (Or.inl ⟨by rfl, ?_⟩) (by assumption) ?_
  rotate_left
  · intro wv hSw; (try dsimp only at hSw); go_simp; (try with_reducible rfl)
  (try simp only [List.getElem_toArray, List.getElem_cons_zero, List.getElem_cons_succ, Act.put, List.setIfInBounds_toArray, List.set_cons_zero, List.set_cons_succ])
  refine wpAnyH_take (i := 20) (oi := _) (v := ?_) rfl (by kernel_rfl) (by kernel_rfl) (by kernel_rfl) (fun _ _ _ h => h) (Or.inl ⟨by rfl, ?_⟩) (by assumption) ?_
  rotate_left
  · intro wv hSw; have c32 := (hSw.1.cell 32).trans (cell32_of hx a c); clear hSw; go_simp; (try with_reducible rfl)
  (try simp only [List.getElem_toArray, List.getElem_cons_zero, List.getElem_cons_succ, Act.put, List.setIfInBounds_toArray, List.set_cons_zero, List.set_cons_succ])
  refine wpAnyH_ready (rs := [18]) (by kernel_rfl) (by simp) ?_
  refine AllReadyH.cons (o := _) rfl (fun K hK => ?_) AllReadyH.nil
  go_simp
  go_at_call 23; refine (HW.out _ hHeld.2.2).mono ?_; rintro _ v6 ⟨rfl, h6⟩
  (try go_wp2_with fail)
  refine hK.out _ _ (⟨hHeld.1.kept h6 (fun h => h), hHeld.2.1.kept h6 (fun h => h), hHeld.2.2.trans h6 fun _ _ h => h⟩) (fun hHeld => ?_)
  clear hK K
  (try simp only [List.getElem_toArray, List.getElem_cons_zero, List.getElem_cons_succ, Act.put, List.setIfInBounds_toArray, List.set_cons_zero, List.set_cons_succ])
  refine wpAnyH_ready (rs := [21]) (by kernel_rfl) (by simp) ?_
  refine AllReadyH.cons (o := _) rfl (fun K hK => ?_) AllReadyH.nil
  go_simp
  go_at_call 24; refine (HWR.out _ hHeld.2.2).mono ?_; rintro _ v7 ⟨rfl, h7⟩
  (try go_wp2_with fail)
  refine hK.out _ _ (⟨hHeld.1.kept h7 (fun h => h), hHeld.2.1.kept h7 (fun h => h), hHeld.2.2.trans h7 fun _ _ h => h⟩) (fun hHeld => ?_)
  clear hK K
  (try simp only [List.getElem_toArray, List.getElem_cons_zero, List.getElem_cons_succ, Act.put, List.setIfInBounds_toArray, List.set_cons_zero, List.set_cons_succ])
  refine wpAnyH_take (i := 22) (oi := _) (v := ?_) rfl (by kernel_rfl) (by kernel_rfl) (by kernel_rfl) (fun _ _ _ h => h) (Or.inl ⟨by rfl, ?_⟩) (by assumption) ?_
  rotate_left
  · intro wv hSw; (try dsimp only at hSw); go_simp; (try with_reducible rfl)
  (try simp only [List.getElem_toArray, List.getElem_cons_zero, List.getElem_cons_succ, Act.put, List.setIfInBounds_toArray, List.set_cons_zero, List.set_cons_succ])
  refine wpAnyH_take (i := 23) (oi := _) (v := ?_) rfl (by kernel_rfl) (by kernel_rfl) (by kernel_rfl) (fun _ _ _ h => h) (Or.inl ⟨by rfl, ?_⟩) (by assumption) ?_
  rotate_left
  · intro wv hSw; (try dsimp only at hSw); go_simp; (try with_reducible rfl)
  (try simp only [List.getElem_toArray, List.getElem_cons_zero, List.getElem_cons_succ, Act.put, List.setIfInBounds_toArray, List.set_cons_zero, List.set_cons_succ])
  refine wpAnyH_take (i := 24) (oi := _) (v := ?_) rfl (by kernel_rfl) (by kernel_rfl) (by kernel_rfl) (fun _ _ _ h => h) (Or.inl ⟨by rfl, ?_⟩) (by assumption) ?_
  rotate_left
  · intro wv hSw; (try dsimp only at hSw); go_simp; (try with_reducible rfl)
  (try simp only [List.getElem_toArray, List.getElem_cons_zero, List.getElem_cons_succ, Act.put, List.setIfInBounds_toArray, List.set_cons_zero, List.set_cons_succ])
  refine wpAnyH_take (i := 25) (oi := _) (v := ?_) rfl (by kernel_rfl) (by kernel_rfl) (by kernel_rfl) (fun _ _ _ h => h) (Or.inl ⟨by rfl, ?_⟩) (by assumption) ?_
  rotate_left
  · intro wv hSw; refine ld_val 35 ?lx5 ?l15 Tryz.isAgg35 33 Tryz.sizeOf35 w.heap.size 0 ?l25 (msgv x a c) lx (hSw.1.seg0); (case l15 => rfl); (case l25 => rfl)
  (try simp only [List.getElem_toArray, List.getElem_cons_zero, List.getElem_cons_succ, Act.put, List.setIfInBounds_toArray, List.set_cons_zero, List.set_cons_succ])
  refine wpAnyH_take (i := 27) (oi := _) (v := ?_) rfl (by kernel_rfl) (by kernel_rfl) (by kernel_rfl) (fun _ _ _ h => h) (Or.inl ⟨by rfl, ?_⟩) (by assumption) ?_
  rotate_left
  · intro wv hSw; refine ld_val 35 ?lx6 ?l16 Tryz.isAgg35 33 Tryz.sizeOf35 (w.heap.size + 1) 0 ?l26 (msgv y b d) ly (hSw.2.1.seg0); (case l16 => rfl); (case l26 => rfl)
  (try simp only [List.getElem_toArray, List.getElem_cons_zero, List.getElem_cons_succ, Act.put, List.setIfInBounds_toArray, List.set_cons_zero, List.set_cons_succ])
  refine wpAnyH_take (i := 30) (oi := _) (v := ?_) rfl (by kernel_rfl) (by kernel_rfl) (by kernel_rfl) (fun _ _ _ h => h) (Or.inl ⟨by rfl, ?_⟩) (by assumption) ?_
  rotate_left
  · intro wv hSw; refine ld_val 35 ?lx7 ?l17 Tryz.isAgg35 33 Tryz.sizeOf35 w.heap.size 0 ?l27 (msgv x a c) lx (hSw.1.seg0); (case l17 => rfl); (case l27 => rfl)
  (try simp only [List.getElem_toArray, List.getElem_cons_zero, List.getElem_cons_succ, Act.put, List.setIfInBounds_toArray, List.set_cons_zero, List.set_cons_succ])
  refine wpAnyH_take (i := 31) (oi := _) (v := ?_) rfl (by kernel_rfl) (by kernel_rfl) (by kernel_rfl) (fun _ _ _ h => h) (Or.inl ⟨by rfl, ?_⟩) (by assumption) ?_
  rotate_left
  · intro wv hSw; refine ld_val 35 ?lx8 ?l18 Tryz.isAgg35 33 Tryz.sizeOf35 (w.heap.size + 1) 0 ?l28 (msgv y b d) ly (hSw.2.1.seg0); (case l18 => rfl); (case l28 => rfl)
  (try simp only [List.getElem_toArray, List.getElem_cons_zero, List.getElem_cons_succ, Act.put, List.setIfInBounds_toArray, List.set_cons_zero, List.set_cons_succ])
  refine wpAnyH_ready (rs := [26]) (by kernel_rfl) (by simp) ?_
  refine AllReadyH.cons (o := _) rfl (fun K hK => ?_) AllReadyH.nil
  go_simp
  go_at_call 11; refine (HTx.out _).mono ?_; rintro _ v8 ⟨rfl, h8⟩
  (try go_wp2_with fail)
  refine hK.out _ _ (⟨hHeld.1.kept h8 (fun h => h), hHeld.2.1.kept h8 (fun h => h), hHeld.2.2.trans h8 fun _ _ h => h⟩) (fun hHeld => ?_)
  clear hK K
  (try simp only [List.getElem_toArray, List.getElem_cons_zero, List.getElem_cons_succ, Act.put, List.setIfInBounds_toArray, List.set_cons_zero, List.set_cons_succ])
  refine wpAnyH_ready (rs := [28]) (by kernel_rfl) (by simp) ?_
  refine AllReadyH.cons (o := _) rfl (fun K hK => ?_) AllReadyH.nil
  go_simp
  go_at_call 11; refine (HTy.out _).mono ?_; rintro _ v9 ⟨rfl, h9⟩
  (try go_wp2_with fail)
  refine hK.out _ _ (⟨hHeld.1.kept h9 (fun h => h), hHeld.2.1.kept h9 (fun h => h), hHeld.2.2.trans h9 fun _ _ h => h⟩) (fun hHeld => ?_)
  clear hK K
  (try simp only [List.getElem_toArray, List.getElem_cons_zero, List.getElem_cons_succ, Act.put, List.setIfInBounds_toArray, List.set_cons_zero, List.set_cons_succ])
  refine wpAnyH_ready (rs := [29]) (by kernel_rfl) (by simp) ?_
  refine AllReadyH.cons (o := _) rfl (fun K hK => ?_) AllReadyH.nil
  go_simp
  go_at_call 25; refine (HS.out _ hHeld.2.2).mono ?_; rintro _ v10 ⟨rfl, h10⟩
  (try go_wp2_with fail)
  refine hK.out _ _ (⟨hHeld.1.kept h10 (fun h => h), hHeld.2.1.kept h10 (fun h => h), hHeld.2.2.trans h10 fun _ _ h => h⟩) (fun hHeld => ?_)
  clear hK K
  (try simp only [List.getElem_toArray, List.getElem_cons_zero, List.getElem_cons_succ, Act.put, List.setIfInBounds_toArray, List.set_cons_zero, List.set_cons_succ])
  refine wpAnyH_ready (rs := [32]) (by kernel_rfl) (by simp) ?_
  refine AllReadyH.cons (o := _) rfl (fun K hK => ?_) AllReadyH.nil
  go_simp
  go_at_call 26; refine (HSR.out _ hHeld.2.2).mono ?_; rintro _ v11 ⟨rfl, h11⟩
  (try go_wp2_with fail)
  refine hK.out _ _ (⟨hHeld.1.kept h11 (fun h => h), hHeld.2.1.kept h11 (fun h => h), hHeld.2.2.trans h11 fun _ _ h => h⟩) (fun hHeld => ?_)
  clear hK K
  (try simp only [List.getElem_toArray, List.getElem_cons_zero, List.getElem_cons_succ, Act.put, List.setIfInBounds_toArray, List.set_cons_zero, List.set_cons_succ])
  refine wpAnyH_take (i := 33) (oi := _) (v := ?_) rfl (by kernel_rfl) (by kernel_rfl) (by kernel_rfl) (fun _ _ _ h => h) (Or.inl ⟨by rfl, ?_⟩) (by assumption) ?_
  rotate_left
  · intro wv hSw; (try dsimp only at hSw); go_simp; (try with_reducible rfl)
  (try simp only [List.getElem_toArray, List.getElem_cons_zero, List.getElem_cons_succ, Act.put, List.setIfInBounds_toArray, List.set_cons_zero, List.set_cons_succ])
  refine wpAnyH_take (i := 34) (oi := _) (v := ?_) rfl (by kernel_rfl) (by kernel_rfl) (by kernel_rfl) (fun _ _ _ h => h) (Or.inl ⟨by rfl, ?_⟩) (by assumption) ?_
  rotate_left
  · intro wv hSw; (try dsimp only at hSw); go_simp; (try with_reducible rfl)
  (try simp only [List.getElem_toArray, List.getElem_cons_zero, List.getElem_cons_succ, Act.put, List.setIfInBounds_toArray, List.set_cons_zero, List.set_cons_succ])
  refine wpAnyH_take (i := 35) (oi := _) (v := ?_) rfl (by kernel_rfl) (by kernel_rfl) (by kernel_rfl) (fun _ _ _ h => h) (Or.inl ⟨by rfl, ?_⟩) (by assumption) ?_
  rotate_left
  · intro wv hSw; (try dsimp only at hSw); go_simp; (try with_reducible rfl)
  (try simp only [List.getElem_toArray, List.getElem_cons_zero, List.getElem_cons_succ, Act.put, List.setIfInBounds_toArray, List.set_cons_zero, List.set_cons_succ])
  refine wpAnyH_take (i := 36) (oi := _) (v := ?_) rfl (by kernel_rfl) (by kernel_rfl) (by kernel_rfl) (fun _ _ _ h => h) (Or.inl ⟨by rfl, ?_⟩) (by assumption) ?_
  rotate_left
  · intro wv hSw; refine ld_val 35 ?lx9 ?l19 Tryz.isAgg35 33 Tryz.sizeOf35 w.heap.size 0 ?l29 (msgv x a c) lx (hSw.1.seg0); (case l19 => rfl); (case l29 => rfl)
  (try simp only [List.getElem_toArray, List.getElem_cons_zero, List.getElem_cons_succ, Act.put, List.setIfInBounds_toArray, List.set_cons_zero, List.set_cons_succ])
  refine wpAnyH_take (i := 38) (oi := _) (v := ?_) rfl (by kernel_rfl) (by kernel_rfl) (by kernel_rfl) (fun _ _ _ h => h) (Or.inl ⟨by rfl, ?_⟩) (by assumption) ?_
  rotate_left
  · intro wv hSw; refine ld_val 35 ?lx10 ?l110 Tryz.isAgg35 33 Tryz.sizeOf35 w.heap.size 0 ?l210 (msgv x a c) lx (hSw.1.seg0); (case l110 => rfl); (case l210 => rfl)
  (try simp only [List.getElem_toArray, List.getElem_cons_zero, List.getElem_cons_succ, Act.put, List.setIfInBounds_toArray, List.set_cons_zero, List.set_cons_succ])
  refine wpAnyH_ready (rs := [37]) (by kernel_rfl) (by simp) ?_
  refine AllReadyH.cons (o := _) rfl (fun K hK => ?_) AllReadyH.nil
  go_simp
  go_at_call 11; refine (HTx.out _).mono ?_; rintro _ v12 ⟨rfl, h12⟩
  (try go_wp2_with fail)
  refine hK.out _ _ (⟨hHeld.1.kept h12 (fun h => h), hHeld.2.1.kept h12 (fun h => h), hHeld.2.2.trans h12 fun _ _ h => h⟩) (fun hHeld => ?_)
  clear hK K
  (try simp only [List.getElem_toArray, List.getElem_cons_zero, List.getElem_cons_succ, Act.put, List.setIfInBounds_toArray, List.set_cons_zero, List.set_cons_succ])
  refine wpAnyH_ready (rs := [39]) (by kernel_rfl) (by simp) ?_
  refine AllReadyH.cons (o := _) rfl (fun K hK => ?_) AllReadyH.nil
  go_simp
  go_at_call 11; refine (HTx.out _).mono ?_; rintro _ v13 ⟨rfl, h13⟩
  (try go_wp2_with fail)
  refine hK.out _ _ (⟨hHeld.1.kept h13 (fun h => h), hHeld.2.1.kept h13 (fun h => h), hHeld.2.2.trans h13 fun _ _ h => h⟩) (fun hHeld => ?_)
  clear hK K
  (try simp only [List.getElem_toArray, List.getElem_cons_zero, List.getElem_cons_succ, Act.put, List.setIfInBounds_toArray, List.set_cons_zero, List.set_cons_succ])
  refine wpAnyH_ready (rs := [40]) (by kernel_rfl) (by simp) ?_
  refine AllReadyH.cons (o := _) rfl (fun K hK => ?_) AllReadyH.nil
  go_simp
  go_at_call 25; refine (HSS.out _ hHeld.2.2).mono ?_; rintro _ v14 ⟨rfl, h14⟩
  (try go_wp2_with fail)
  refine hK.out _ _ (⟨hHeld.1.kept h14 (fun h => h), hHeld.2.1.kept h14 (fun h => h), hHeld.2.2.trans h14 fun _ _ h => h⟩) (fun hHeld => ?_)
  clear hK K
  (try simp only [List.getElem_toArray, List.getElem_cons_zero, List.getElem_cons_succ, Act.put, List.setIfInBounds_toArray, List.set_cons_zero, List.set_cons_succ])
  refine wpAnyH_take (i := 41) (oi := _) (v := ?_) rfl (by kernel_rfl) (by kernel_rfl) (by kernel_rfl) (fun _ _ _ h => h) (Or.inl ⟨by rfl, ?_⟩) (by assumption) ?_
  rotate_left
  · intro wv hSw; (try dsimp only at hSw); go_simp; (try with_reducible rfl)
  (try simp only [List.getElem_toArray, List.getElem_cons_zero, List.getElem_cons_succ, Act.put, List.setIfInBounds_toArray, List.set_cons_zero, List.set_cons_succ])
  refine wpAnyH_take (i := 42) (oi := _) (v := ?_) rfl (by kernel_rfl) (by kernel_rfl) (by kernel_rfl) (fun _ _ _ h => h) (Or.inl ⟨by rfl, ?_⟩) (by assumption) ?_
  rotate_left
  · intro wv hSw; (try dsimp only at hSw); go_simp; (try with_reducible rfl)
  (try simp only [List.getElem_toArray, List.getElem_cons_zero, List.getElem_cons_succ, Act.put, List.setIfInBounds_toArray, List.set_cons_zero, List.set_cons_succ])
  refine wpAnyH_ready (rs := [43]) (by kernel_rfl) (by simp) ?_
  refine AllReadyH.cons (o := _) rfl (fun K hK => ?_) AllReadyH.nil
  go_simp
  go_at_call 9; refine (HA.out _).mono ?_; rintro _ v15 ⟨rfl, h15⟩
  (try go_wp2_with fail)
  refine hK.out _ _ (⟨hHeld.1.kept h15 (fun h => h), hHeld.2.1.kept h15 (fun h => h), hHeld.2.2.trans h15 fun _ _ h => h⟩) (fun hHeld => ?_)
  clear hK K
  (try simp only [List.getElem_toArray, List.getElem_cons_zero, List.getElem_cons_succ, Act.put, List.setIfInBounds_toArray, List.set_cons_zero, List.set_cons_succ])
  refine wpAnyH_take (i := 44) (oi := _) (v := ?_) rfl (by kernel_rfl) (by kernel_rfl) (by kernel_rfl) (fun _ _ _ h => h) (Or.inl ⟨by rfl, ?_⟩) (by assumption) ?_
  rotate_left
  · intro wv hSw; (try dsimp only at hSw); go_simp; (try with_reducible rfl)
  (try simp only [List.getElem_toArray, List.getElem_cons_zero, List.getElem_cons_succ, Act.put, List.setIfInBounds_toArray, List.set_cons_zero, List.set_cons_succ])
  refine wpAnyH_take (i := 45) (oi := _) (v := ?_) rfl (by kernel_rfl) (by kernel_rfl) (by kernel_rfl) (fun _ _ _ h => h) (Or.inl ⟨by rfl, ?_⟩) (by assumption) ?_
  rotate_left
  · intro wv hSw; (try dsimp only at hSw); go_simp; (try with_reducible rfl)
  (try simp only [List.getElem_toArray, List.getElem_cons_zero, List.getElem_cons_succ, Act.put, List.setIfInBounds_toArray, List.set_cons_zero, List.set_cons_succ])
  refine wpAnyH_done (by kernel_rfl) ?_ _

  go_wp2
  go_ret
  exact ⟨rfl, hHeld.2.2⟩
end
end Go.Proofs.YtjfmidcaekhhgaaGreatDoor
