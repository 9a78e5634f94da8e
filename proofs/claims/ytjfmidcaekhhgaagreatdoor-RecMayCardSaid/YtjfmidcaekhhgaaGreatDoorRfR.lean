/- The document's May of a record: walks. Printed by gen_rfr.py. -/
import Derived.Test.YtjfmidcaekhhgaaGreatDoorRfQ
import Derived.Test.YtjfmidcaekhhgaaGreatDoorRfG
namespace Go.Proofs.YtjfmidcaekhhgaaGreatDoor
open Go.RowKit Go.PM

theorem sameR_all {x y : PRec} (h : sameR x y = true) : x = y := by
  rw [sameR_eq] at h
  simp only [Bool.and_eq_true, beq_iff_eq, decide_eq_true_eq, Int.natCast_inj] at h
  obtain ⟨h0, h1, h2, h3, h4, h5, h6, h7, h8⟩ := h
  obtain ⟨a0, a1, a2, a3, a4, a5, a6, a7, a8⟩ := x
  obtain ⟨b0, b1, b2, b3, b4, b5, b6, b7, b8⟩ := y
  simp only at h0 h1 h2 h3 h4 h5 h6 h7 h8
  have h9 : a5 = b5 := Classical.byContradiction fun h => by rw [sameW_no h] at h5; cases h5
  subst h0 h1 h2 h3 h4 h9 h6 h7 h8
  rfl
/-- What the document asks of a record that is what is kept of it. -/
def rBody (m : PRec) : Bool :=
  if m.kind = 1 then isCount m.n
  else if m.kind = 2 then txMay m.tx && regMay m.reg && someMay m
  else if m.kind = 3 ∨ m.kind = 4 ∨ m.kind = 6 then txMay m.tx
  else if m.kind = 5 then m.missing.all isSet && (txMay m.tx && isSet m.members && someMay m && decide (m.missing.length = m.writes.length))
  else if m.kind = 7 then keyOk m.key && itemMay m.item
  else false
theorem kind_cases (k : Nat) : k = 1 ∨ k = 2 ∨ (k = 3 ∨ k = 4 ∨ k = 6) ∨ k = 5 ∨ k = 7 ∨ rdx k = [] := by
  rcases rdx_cases k with h | h | h | h | h | h | h | h
  · exact .inr (.inr (.inr (.inr (.inr h))))
  all_goals omega
theorem keptR_may {m : PRec} (h : keptR m = m) : rMay m = rBody m := by
  obtain ⟨kind, n, tx, reg, members, writes, missing, key, item⟩ := m
  rcases kind_cases kind with e | e | e | e | e | e
  · subst e
    simp [keptR, zeroRec] at h
    obtain ⟨rfl, rfl, rfl, rfl, rfl, rfl, rfl⟩ := h
    simp [rMay, rBody]
  · subst e
    simp [keptR, zeroRec] at h
    obtain ⟨rfl, rfl, rfl, rfl, rfl⟩ := h
    simp [rMay, rBody]
  · have h1 : ¬ kind = 1 := by omega
    have h2 : ¬ kind = 2 := by omega
    simp [keptR, zeroRec, h1, h2, e] at h
    obtain ⟨rfl, rfl, rfl, rfl, rfl, rfl, rfl⟩ := h
    simp [rMay, rBody, h1, h2, e]
  · subst e
    simp [keptR, zeroRec] at h
    obtain ⟨rfl, rfl, rfl, rfl⟩ := h
    simp [rMay, rBody, missMay, Bool.and_assoc, Bool.and_comm]
  · subst e
    simp [keptR, zeroRec] at h
    obtain ⟨rfl, rfl, rfl, rfl, rfl, rfl⟩ := h
    simp [rMay, rBody]
  · obtain ⟨h1, h2, h3, h4, h5, h6, h7⟩ := rfx_none e
    simp [rMay, rBody, h1, h2, h3, h4, h5, h6, h7]
theorem rMay_kept {m : PRec} (h : rMay m = true) : keptR m = m := by
  obtain ⟨kind, n, tx, reg, members, writes, missing, key, item⟩ := m
  rcases kind_cases kind with e | e | e | e | e | e
  · subst e
    simp [rMay] at h
    simp [keptR, zeroRec, h]
  · subst e
    simp [rMay] at h
    simp [keptR, zeroRec, h]
  · have h1 : ¬ kind = 1 := by omega
    have h2 : ¬ kind = 2 := by omega
    simp [rMay, h1, h2, e] at h
    simp [keptR, zeroRec, h1, h2, e, h]
  · subst e
    simp [rMay] at h
    simp [keptR, zeroRec, h]
  · subst e
    simp [rMay] at h
    simp [keptR, zeroRec, h]
  · obtain ⟨h1, h2, h3, h4, h5, h6, h7⟩ := rfx_none e
    simp [rMay, h1, h2, h3, h4, h5, h6, h7] at h
theorem keptR_sm {m : PRec} (h : m.Sm) : (keptR m).Sm := by
  obtain ⟨h1, h2, h3, h4⟩ := h
  unfold keptR
  repeat' split
  all_goals exact ⟨by first | exact h1 | exact Nat.zero_le _, by first | exact h2 | exact (fun _ hx => nomatch hx), by first | exact h3 | exact Nat.zero_le _, by first | exact h4 | exact Nat.zero_le _⟩
theorem keptR_wf {m : PRec} (h : m.Wf) : (keptR m).Wf := by
  have z := (zeroRec_gd 0 (by decide)).wf
  unfold keptR
  repeat' split
  all_goals exact ⟨by first | exact h.kind | exact (show (1 : Nat) < 256 by decide) | exact (show (2 : Nat) < 256 by decide) | exact (show (5 : Nat) < 256 by decide) | exact (show (7 : Nat) < 256 by decide) | exact (show (0 : Nat) < 256 by decide), by first | exact h.n | exact z.n, by first | exact h.tx | exact z.tx, by first | exact h.reg | exact z.reg, by first | exact h.members | exact z.members, by first | exact h.writes | exact z.writes, by first | exact h.missing | exact z.missing, by first | exact h.key | exact z.key, by first | exact h.item | exact z.item⟩
theorem someMay_nil {m : PRec} (h : m.writes = []) : someMay m = false := by simp [someMay, h]
theorem someMay_some {m : PRec} (h : ¬ m.writes = []) : someMay m = writesMay m.writes := by simp [someMay, h]
theorem isCountSplit (n : Nat) : isCount n = (decide (1 ≤ n) && decide (n ≤ 2147483647)) := by
  unfold isCount maxC; rw [Bool.eq_iff_iff]; simp
section
variable {w : World}
set_option maxRecDepth 100000 in
set_option maxHeartbeats 2000000 in
theorem refRMay_no (m : PRec) (hm : m.Wf) (hs : m.Sm) (hS : sameR (keptR m) m = false) (aw : Option Addr) (cw : Nat) (am : Option Addr) (cm : Nat) (hrw : Rd w aw (pwsv m.writes)) (hrm : Rd w am (ucells m.missing)) :
    Calls Tryz.prog 28 #[.agg (recv m aw cw am cm).toArray] w fun e w' => e = .returned (.bool (rMay m)) ∧ Kept No w w' := by
  have B1 := Blk.new w 50 (recv m aw cw am cm)
  have K1 := (Kept.refl No w).alloc (.cells (recv m aw cw am cm).toArray 50)
  have l31 := recv_length hm aw cw am cm
  have HK := Lib.hid (fun w => refKeptR_calls (w := w) m hm aw cw am cm)
  have HSame := Lib.hid (fun (wq : World) (a5 : Option Addr) (c5 : Nat) (b5 : Option Addr) (d5 : Nat) (r5 : ∀ wq, Rd wq aw (pwsv m.writes) → Rd wq a5 (pwsv (keptR m).writes)) (t5 : ∀ wq, Rd wq am (ucells m.missing) → Rd wq b5 (ucells (keptR m).missing)) (k : Kept No w wq) => refRSame_calls (w := wq) (keptR m) m a5 b5 aw am c5 d5 cw cm (keptR_wf hm) hm (keptR_sm hs) hs (r5 _ (hrw.keptNo k)) (t5 _ (hrm.keptNo k)) (hrw.keptNo k) (hrm.keptNo k))
  have hM0 : Hid (rMay m = false) := Lib.hid (by
    cases h : rMay m
    · rfl
    · rw [rMay_kept h, sameR_self] at hS; cases hS)
  rw [hS] at HSame
  rw [hM0.out]
  go_enter Tryz.func28, Tryz.ntmps28
  go_wp2
  refine wp_region_held_drew (S := fun w' => Blk w' w.heap.size 50 (recv m aw cw am cm) ∧ Kept No w w') (by kernel_rfl) (⟨B1, K1.drew⟩) (fun hHeld => ?_)
  refine wpAnyH_take (i := 0) (oi := _) (v := ?_) rfl (by kernel_rfl) (by kernel_rfl) (by kernel_rfl) (fun _ _ _ h => h) (Or.inl ⟨by rfl, ?_⟩) (by assumption) ?_
  rotate_left
  · intro wv hSw; refine ld_val 50 ?lx1 ?l11 Tryz.isAgg50 31 Tryz.sizeOf50 w.heap.size 0 ?l21 (recv m aw cw am cm) l31 (hSw.1.seg0); (case l11 => rfl); (case l21 => rfl)
  (try simp only [List.getElem_toArray, List.getElem_cons_zero, Act.put, List.setIfInBounds_toArray, List.set_cons_zero, List.set_cons_succ])
  refine wpAnyH_take (i := 2) (oi := _) (v := ?_) rfl (by kernel_rfl) (by kernel_rfl) (by kernel_rfl) (fun _ _ _ h => h) (Or.inl ⟨by rfl, ?_⟩) (by assumption) ?_
  rotate_left
  · intro wv hSw; refine ld_val 50 ?lx2 ?l12 Tryz.isAgg50 31 Tryz.sizeOf50 w.heap.size 0 ?l22 (recv m aw cw am cm) l31 (hSw.1.seg0); (case l12 => rfl); (case l22 => rfl)
  (try simp only [List.getElem_toArray, List.getElem_cons_zero, List.getElem_cons_succ, Act.put, List.setIfInBounds_toArray, List.set_cons_zero, List.set_cons_succ])
  refine wpAnyH_ready (rs := [1]) (by kernel_rfl) (by simp) ?_
  refine AllReadyH.cons (o := _) rfl (fun K hK => ?_) AllReadyH.nil
  go_simp
  go_at_call 65; refine (HK.out _).mono ?_; rintro _ w5 ⟨a5, c5, b5, d5, rfl, r5, t5, k5⟩
  (try go_wp2_with fail)
  refine hK.out _ _ (⟨hHeld.1.kept k5 (fun h => h), hHeld.2.trans k5 fun _ _ h => h⟩) (fun hHeld => ?_)
  clear hK K
  (try simp only [List.getElem_toArray, List.getElem_cons_zero, List.getElem_cons_succ, Act.put, List.setIfInBounds_toArray, List.set_cons_zero, List.set_cons_succ])
  refine wpAnyH_ready (rs := [3]) (by kernel_rfl) (by simp) ?_
  refine AllReadyH.cons (o := _) rfl (fun K hK => ?_) AllReadyH.nil
  go_simp
  go_at_call 30; refine (HSame.out _ _ _ _ _ r5 t5 hHeld.2).mono ?_; rintro _ w6 ⟨rfl, k6⟩
  (try go_wp2_with fail)
  refine hK.out _ _ (⟨hHeld.1.kept k6 (fun h => h), hHeld.2.trans k6 fun _ _ h => h⟩) (fun hHeld => ?_)
  clear hK K
  (try simp only [List.getElem_toArray, List.getElem_cons_zero, List.getElem_cons_succ, Act.put, List.setIfInBounds_toArray, List.set_cons_zero, List.set_cons_succ])
  refine wpAnyH_take (i := 4) (oi := _) (v := ?_) rfl (by kernel_rfl) (by kernel_rfl) (by kernel_rfl) (fun _ _ _ h => h) (Or.inl ⟨by rfl, ?_⟩) (by assumption) ?_
  rotate_left
  · intro wv hSw; (try dsimp only at hSw); go_simp; (try with_reducible rfl)
  (try simp only [List.getElem_toArray, List.getElem_cons_zero, List.getElem_cons_succ, Act.put, List.setIfInBounds_toArray, List.set_cons_zero, List.set_cons_succ])
  refine wpAnyH_done (by kernel_rfl) ?_ _

  go_wp2
  go_ret
  exact ⟨rfl, hHeld.2⟩
set_option maxRecDepth 100000 in
set_option maxHeartbeats 2000000 in
theorem refRMay_1 (m : PRec) (hm : m.Wf) (hs : m.Sm) (hk : m.kind = 1) (hS : sameR (keptR m) m = true) (aw : Option Addr) (cw : Nat) (am : Option Addr) (cm : Nat) (hrw : Rd w aw (pwsv m.writes)) (hrm : Rd w am (ucells m.missing)) (haw : ∀ b, At aw b → b < w.heap.size) (ham : ∀ b, At am b → b < w.heap.size) :
    Calls Tryz.prog 28 #[.agg (recv m aw cw am cm).toArray] w fun e w' => e = .returned (.bool (rMay m)) ∧ Kept No w w' := by
  have B1 := Blk.new w 50 (recv m aw cw am cm)
  have K1 := (Kept.refl No w).alloc (.cells (recv m aw cw am cm).toArray 50)
  have l31 := recv_length hm aw cw am cm
  have HK := Lib.hid (fun w => refKeptR_calls (w := w) m hm aw cw am cm)
  have HSame := Lib.hid (fun (wq : World) (a5 : Option Addr) (c5 : Nat) (b5 : Option Addr) (d5 : Nat) (r5 : ∀ wq, Rd wq aw (pwsv m.writes) → Rd wq a5 (pwsv (keptR m).writes)) (t5 : ∀ wq, Rd wq am (ucells m.missing) → Rd wq b5 (ucells (keptR m).missing)) (k : Kept No w wq) => refRSame_calls (w := wq) (keptR m) m a5 b5 aw am c5 d5 cw cm (keptR_wf hm) hm (keptR_sm hs) hs (r5 _ (hrw.keptNo k)) (t5 _ (hrm.keptNo k)) (hrw.keptNo k) (hrm.keptNo k))
  have HRc := Lib.hid (show ∀ wq : World, Blk wq w.heap.size 50 (recv m aw cw am cm) → Kept No w wq → Rc wq 50 w.heap.size m aw cw am cm from fun wq h k => ⟨h, hrw.keptNo k, hrm.keptNo k, fun b hb => k.lt (haw b hb), fun b hb => k.lt (ham b hb), hm, hs⟩)
  have hR := sameR_all hS
  have hB := keptR_may hR
  rw [hS] at HSame
  rw [hB]
  clear hB hS
  have hw0 : m.writes.length = 0 := by rw [← hR]; unfold keptR; rw [if_pos hk]; rfl
  have hb : rBody m = (decide (1 ≤ m.n) && decide (m.n ≤ 2147483647)) := by unfold rBody; rw [if_pos hk, isCountSplit]
  rw [hb]
  have hn := hm.n
  clear hb hR
  by_cases e1 : 1 ≤ m.n
  · have i1 : (1 : Int) ≤ m.n := by omega
    rw [decide_eq_true e1]
    by_cases e2 : m.n ≤ 2147483647
    · have i2 : (m.n : Int) ≤ 2147483647 := by omega
      rw [decide_eq_true e2]
      clear e1 e2
      go_enter Tryz.func28, Tryz.ntmps28
      go_wp2
      refine wp_region_held_drew (S := fun w' => Blk w' w.heap.size 50 (recv m aw cw am cm) ∧ Kept No w w') (by kernel_rfl) (⟨B1, K1.drew⟩) (fun hHeld => ?_)
      refine wpAnyH_take (i := 0) (oi := _) (v := ?_) rfl (by kernel_rfl) (by kernel_rfl) (by kernel_rfl) (fun _ _ _ h => h) (Or.inl ⟨by rfl, ?_⟩) (by assumption) ?_
      rotate_left
      · intro wv hSw; refine ld_val 50 ?lx3 ?l13 Tryz.isAgg50 31 Tryz.sizeOf50 w.heap.size 0 ?l23 (recv m aw cw am cm) l31 (hSw.1.seg0); (case l13 => rfl); (case l23 => rfl)
      (try simp only [List.getElem_toArray, List.getElem_cons_zero, Act.put, List.setIfInBounds_toArray, List.set_cons_zero, List.set_cons_succ])
      refine wpAnyH_take (i := 2) (oi := _) (v := ?_) rfl (by kernel_rfl) (by kernel_rfl) (by kernel_rfl) (fun _ _ _ h => h) (Or.inl ⟨by rfl, ?_⟩) (by assumption) ?_
      rotate_left
      · intro wv hSw; refine ld_val 50 ?lx4 ?l14 Tryz.isAgg50 31 Tryz.sizeOf50 w.heap.size 0 ?l24 (recv m aw cw am cm) l31 (hSw.1.seg0); (case l14 => rfl); (case l24 => rfl)
      (try simp only [List.getElem_toArray, List.getElem_cons_zero, List.getElem_cons_succ, Act.put, List.setIfInBounds_toArray, List.set_cons_zero, List.set_cons_succ])
      refine wpAnyH_ready (rs := [1]) (by kernel_rfl) (by simp) ?_
      refine AllReadyH.cons (o := _) rfl (fun K hK => ?_) AllReadyH.nil
      go_simp
      go_at_call 65; refine (HK.out _).mono ?_; rintro _ w5 ⟨a5, c5, b5, d5, rfl, r5, t5, k5⟩
      (try go_wp2_with fail)
      refine hK.out _ _ (⟨hHeld.1.kept k5 (fun h => h), hHeld.2.trans k5 fun _ _ h => h⟩) (fun hHeld => ?_)
      clear hK K
      (try simp only [List.getElem_toArray, List.getElem_cons_zero, List.getElem_cons_succ, Act.put, List.setIfInBounds_toArray, List.set_cons_zero, List.set_cons_succ])
      refine wpAnyH_ready (rs := [3]) (by kernel_rfl) (by simp) ?_
      refine AllReadyH.cons (o := _) rfl (fun K hK => ?_) AllReadyH.nil
      go_simp
      go_at_call 30; refine (HSame.out _ _ _ _ _ r5 t5 hHeld.2).mono ?_; rintro _ w6 ⟨rfl, k6⟩
      (try go_wp2_with fail)
      refine hK.out _ _ (⟨hHeld.1.kept k6 (fun h => h), hHeld.2.trans k6 fun _ _ h => h⟩) (fun hHeld => ?_)
      clear hK K
      (try simp only [List.getElem_toArray, List.getElem_cons_zero, List.getElem_cons_succ, Act.put, List.setIfInBounds_toArray, List.set_cons_zero, List.set_cons_succ])
      refine wpAnyH_take (i := 4) (oi := _) (v := ?_) rfl (by kernel_rfl) (by kernel_rfl) (by kernel_rfl) (fun _ _ _ h => h) (Or.inl ⟨by rfl, ?_⟩) (by assumption) ?_
      rotate_left
      · intro wv hSw; (try dsimp only at hSw); go_simp; (try with_reducible rfl)
      (try simp only [List.getElem_toArray, List.getElem_cons_zero, List.getElem_cons_succ, Act.put, List.setIfInBounds_toArray, List.set_cons_zero, List.set_cons_succ])
      refine wpAnyH_done (by kernel_rfl) ?_ _

      have B6 : Rc w6 50 w.heap.size m aw cw am cm := HRc.out _ hHeld.1 hHeld.2
      have K6 := hHeld.2
      clear HSame HK B1 K1 hHeld HRc
      have c8 := B6.writes
      have c0 := B6.kind
      rw [hk] at c0
      have n0 := hw0
      rw [n0] at c8
      have cn := B6.n_
      go_wp2
      go_ret
      exact ⟨by rfl, K6⟩
    · have i2 := decide_eq_false (show ¬ (m.n : Int) ≤ 2147483647 by omega)
      rw [decide_eq_false e2]
      clear e1 e2
      go_enter Tryz.func28, Tryz.ntmps28
      go_wp2
      refine wp_region_held_drew (S := fun w' => Blk w' w.heap.size 50 (recv m aw cw am cm) ∧ Kept No w w') (by kernel_rfl) (⟨B1, K1.drew⟩) (fun hHeld => ?_)
      refine wpAnyH_take (i := 0) (oi := _) (v := ?_) rfl (by kernel_rfl) (by kernel_rfl) (by kernel_rfl) (fun _ _ _ h => h) (Or.inl ⟨by rfl, ?_⟩) (by assumption) ?_
      rotate_left
      · intro wv hSw; refine ld_val 50 ?lx5 ?l15 Tryz.isAgg50 31 Tryz.sizeOf50 w.heap.size 0 ?l25 (recv m aw cw am cm) l31 (hSw.1.seg0); (case l15 => rfl); (case l25 => rfl)
      (try simp only [List.getElem_toArray, List.getElem_cons_zero, Act.put, List.setIfInBounds_toArray, List.set_cons_zero, List.set_cons_succ])
      refine wpAnyH_take (i := 2) (oi := _) (v := ?_) rfl (by kernel_rfl) (by kernel_rfl) (by kernel_rfl) (fun _ _ _ h => h) (Or.inl ⟨by rfl, ?_⟩) (by assumption) ?_
      rotate_left
      · intro wv hSw; refine ld_val 50 ?lx6 ?l16 Tryz.isAgg50 31 Tryz.sizeOf50 w.heap.size 0 ?l26 (recv m aw cw am cm) l31 (hSw.1.seg0); (case l16 => rfl); (case l26 => rfl)
      (try simp only [List.getElem_toArray, List.getElem_cons_zero, List.getElem_cons_succ, Act.put, List.setIfInBounds_toArray, List.set_cons_zero, List.set_cons_succ])
      refine wpAnyH_ready (rs := [1]) (by kernel_rfl) (by simp) ?_
      refine AllReadyH.cons (o := _) rfl (fun K hK => ?_) AllReadyH.nil
      go_simp
      go_at_call 65; refine (HK.out _).mono ?_; rintro _ w5 ⟨a5, c5, b5, d5, rfl, r5, t5, k5⟩
      (try go_wp2_with fail)
      refine hK.out _ _ (⟨hHeld.1.kept k5 (fun h => h), hHeld.2.trans k5 fun _ _ h => h⟩) (fun hHeld => ?_)
      clear hK K
      (try simp only [List.getElem_toArray, List.getElem_cons_zero, List.getElem_cons_succ, Act.put, List.setIfInBounds_toArray, List.set_cons_zero, List.set_cons_succ])
      refine wpAnyH_ready (rs := [3]) (by kernel_rfl) (by simp) ?_
      refine AllReadyH.cons (o := _) rfl (fun K hK => ?_) AllReadyH.nil
      go_simp
      go_at_call 30; refine (HSame.out _ _ _ _ _ r5 t5 hHeld.2).mono ?_; rintro _ w6 ⟨rfl, k6⟩
      (try go_wp2_with fail)
      refine hK.out _ _ (⟨hHeld.1.kept k6 (fun h => h), hHeld.2.trans k6 fun _ _ h => h⟩) (fun hHeld => ?_)
      clear hK K
      (try simp only [List.getElem_toArray, List.getElem_cons_zero, List.getElem_cons_succ, Act.put, List.setIfInBounds_toArray, List.set_cons_zero, List.set_cons_succ])
      refine wpAnyH_take (i := 4) (oi := _) (v := ?_) rfl (by kernel_rfl) (by kernel_rfl) (by kernel_rfl) (fun _ _ _ h => h) (Or.inl ⟨by rfl, ?_⟩) (by assumption) ?_
      rotate_left
      · intro wv hSw; (try dsimp only at hSw); go_simp; (try with_reducible rfl)
      (try simp only [List.getElem_toArray, List.getElem_cons_zero, List.getElem_cons_succ, Act.put, List.setIfInBounds_toArray, List.set_cons_zero, List.set_cons_succ])
      refine wpAnyH_done (by kernel_rfl) ?_ _

      have B6 : Rc w6 50 w.heap.size m aw cw am cm := HRc.out _ hHeld.1 hHeld.2
      have K6 := hHeld.2
      clear HSame HK B1 K1 hHeld HRc
      have c8 := B6.writes
      have c0 := B6.kind
      rw [hk] at c0
      have n0 := hw0
      rw [n0] at c8
      have cn := B6.n_
      go_wp2
      go_ret
      exact ⟨by rfl, K6⟩
  · have i1 := decide_eq_false (show ¬ (1 : Int) ≤ m.n by omega)
    rw [decide_eq_false e1]
    clear e1
    go_enter Tryz.func28, Tryz.ntmps28
    go_wp2
    refine wp_region_held_drew (S := fun w' => Blk w' w.heap.size 50 (recv m aw cw am cm) ∧ Kept No w w') (by kernel_rfl) (⟨B1, K1.drew⟩) (fun hHeld => ?_)
    refine wpAnyH_take (i := 0) (oi := _) (v := ?_) rfl (by kernel_rfl) (by kernel_rfl) (by kernel_rfl) (fun _ _ _ h => h) (Or.inl ⟨by rfl, ?_⟩) (by assumption) ?_
    rotate_left
    · intro wv hSw; refine ld_val 50 ?lx7 ?l17 Tryz.isAgg50 31 Tryz.sizeOf50 w.heap.size 0 ?l27 (recv m aw cw am cm) l31 (hSw.1.seg0); (case l17 => rfl); (case l27 => rfl)
    (try simp only [List.getElem_toArray, List.getElem_cons_zero, Act.put, List.setIfInBounds_toArray, List.set_cons_zero, List.set_cons_succ])
    refine wpAnyH_take (i := 2) (oi := _) (v := ?_) rfl (by kernel_rfl) (by kernel_rfl) (by kernel_rfl) (fun _ _ _ h => h) (Or.inl ⟨by rfl, ?_⟩) (by assumption) ?_
    rotate_left
    · intro wv hSw; refine ld_val 50 ?lx8 ?l18 Tryz.isAgg50 31 Tryz.sizeOf50 w.heap.size 0 ?l28 (recv m aw cw am cm) l31 (hSw.1.seg0); (case l18 => rfl); (case l28 => rfl)
    (try simp only [List.getElem_toArray, List.getElem_cons_zero, List.getElem_cons_succ, Act.put, List.setIfInBounds_toArray, List.set_cons_zero, List.set_cons_succ])
    refine wpAnyH_ready (rs := [1]) (by kernel_rfl) (by simp) ?_
    refine AllReadyH.cons (o := _) rfl (fun K hK => ?_) AllReadyH.nil
    go_simp
    go_at_call 65; refine (HK.out _).mono ?_; rintro _ w5 ⟨a5, c5, b5, d5, rfl, r5, t5, k5⟩
    (try go_wp2_with fail)
    refine hK.out _ _ (⟨hHeld.1.kept k5 (fun h => h), hHeld.2.trans k5 fun _ _ h => h⟩) (fun hHeld => ?_)
    clear hK K
    (try simp only [List.getElem_toArray, List.getElem_cons_zero, List.getElem_cons_succ, Act.put, List.setIfInBounds_toArray, List.set_cons_zero, List.set_cons_succ])
    refine wpAnyH_ready (rs := [3]) (by kernel_rfl) (by simp) ?_
    refine AllReadyH.cons (o := _) rfl (fun K hK => ?_) AllReadyH.nil
    go_simp
    go_at_call 30; refine (HSame.out _ _ _ _ _ r5 t5 hHeld.2).mono ?_; rintro _ w6 ⟨rfl, k6⟩
    (try go_wp2_with fail)
    refine hK.out _ _ (⟨hHeld.1.kept k6 (fun h => h), hHeld.2.trans k6 fun _ _ h => h⟩) (fun hHeld => ?_)
    clear hK K
    (try simp only [List.getElem_toArray, List.getElem_cons_zero, List.getElem_cons_succ, Act.put, List.setIfInBounds_toArray, List.set_cons_zero, List.set_cons_succ])
    refine wpAnyH_take (i := 4) (oi := _) (v := ?_) rfl (by kernel_rfl) (by kernel_rfl) (by kernel_rfl) (fun _ _ _ h => h) (Or.inl ⟨by rfl, ?_⟩) (by assumption) ?_
    rotate_left
    · intro wv hSw; (try dsimp only at hSw); go_simp; (try with_reducible rfl)
    (try simp only [List.getElem_toArray, List.getElem_cons_zero, List.getElem_cons_succ, Act.put, List.setIfInBounds_toArray, List.set_cons_zero, List.set_cons_succ])
    refine wpAnyH_done (by kernel_rfl) ?_ _

    have B6 : Rc w6 50 w.heap.size m aw cw am cm := HRc.out _ hHeld.1 hHeld.2
    have K6 := hHeld.2
    clear HSame HK B1 K1 hHeld HRc
    have c8 := B6.writes
    have c0 := B6.kind
    rw [hk] at c0
    have n0 := hw0
    rw [n0] at c8
    have cn := B6.n_
    go_wp2
    go_ret
    exact ⟨by rfl, K6⟩
set_option maxRecDepth 100000 in
set_option maxHeartbeats 2000000 in
theorem refRMay_3 (m : PRec) (hm : m.Wf) (hs : m.Sm) (hk : m.kind = 3 ∨ m.kind = 4 ∨ m.kind = 6) (hS : sameR (keptR m) m = true) (aw : Option Addr) (cw : Nat) (am : Option Addr) (cm : Nat) (hrw : Rd w aw (pwsv m.writes)) (hrm : Rd w am (ucells m.missing)) (haw : ∀ b, At aw b → b < w.heap.size) (ham : ∀ b, At am b → b < w.heap.size) :
    Calls Tryz.prog 28 #[.agg (recv m aw cw am cm).toArray] w fun e w' => e = .returned (.bool (rMay m)) ∧ Kept No w w' := by
  have B1 := Blk.new w 50 (recv m aw cw am cm)
  have K1 := (Kept.refl No w).alloc (.cells (recv m aw cw am cm).toArray 50)
  have l31 := recv_length hm aw cw am cm
  have HK := Lib.hid (fun w => refKeptR_calls (w := w) m hm aw cw am cm)
  have HSame := Lib.hid (fun (wq : World) (a5 : Option Addr) (c5 : Nat) (b5 : Option Addr) (d5 : Nat) (r5 : ∀ wq, Rd wq aw (pwsv m.writes) → Rd wq a5 (pwsv (keptR m).writes)) (t5 : ∀ wq, Rd wq am (ucells m.missing) → Rd wq b5 (ucells (keptR m).missing)) (k : Kept No w wq) => refRSame_calls (w := wq) (keptR m) m a5 b5 aw am c5 d5 cw cm (keptR_wf hm) hm (keptR_sm hs) hs (r5 _ (hrw.keptNo k)) (t5 _ (hrm.keptNo k)) (hrw.keptNo k) (hrm.keptNo k))
  have HRc := Lib.hid (show ∀ wq : World, Blk wq w.heap.size 50 (recv m aw cw am cm) → Kept No w wq → Rc wq 50 w.heap.size m aw cw am cm from fun wq h k => ⟨h, hrw.keptNo k, hrm.keptNo k, fun b hb => k.lt (haw b hb), fun b hb => k.lt (ham b hb), hm, hs⟩)
  have HT := Lib.hid (fun wq => refTxMay_calls (w := wq) m.tx hm.tx)
  have hR := sameR_all hS
  have hB := keptR_may hR
  rw [hS] at HSame
  rw [hB]
  clear hB hS
  have hw0 : m.writes.length = 0 := by rw [← hR]; unfold keptR; rw [if_neg (by omega), if_neg (by omega), if_pos hk]; rfl
  have hb : rBody m = txMay m.tx := by unfold rBody; rw [if_neg (by omega), if_neg (by omega), if_pos hk]
  rw [hb]
  clear hb hR
  rcases hk with hk | hk | hk
  · skip
    go_enter Tryz.func28, Tryz.ntmps28
    go_wp2
    refine wp_region_held_drew (S := fun w' => Blk w' w.heap.size 50 (recv m aw cw am cm) ∧ Kept No w w') (by kernel_rfl) (⟨B1, K1.drew⟩) (fun hHeld => ?_)
    refine wpAnyH_take (i := 0) (oi := _) (v := ?_) rfl (by kernel_rfl) (by kernel_rfl) (by kernel_rfl) (fun _ _ _ h => h) (Or.inl ⟨by rfl, ?_⟩) (by assumption) ?_
    rotate_left
    · intro wv hSw; refine ld_val 50 ?lx9 ?l19 Tryz.isAgg50 31 Tryz.sizeOf50 w.heap.size 0 ?l29 (recv m aw cw am cm) l31 (hSw.1.seg0); (case l19 => rfl); (case l29 => rfl)
    (try simp only [List.getElem_toArray, List.getElem_cons_zero, Act.put, List.setIfInBounds_toArray, List.set_cons_zero, List.set_cons_succ])
    refine wpAnyH_take (i := 2) (oi := _) (v := ?_) rfl (by kernel_rfl) (by kernel_rfl) (by kernel_rfl) (fun _ _ _ h => h) (Or.inl ⟨by rfl, ?_⟩) (by assumption) ?_
    rotate_left
    · intro wv hSw; refine ld_val 50 ?lx10 ?l110 Tryz.isAgg50 31 Tryz.sizeOf50 w.heap.size 0 ?l210 (recv m aw cw am cm) l31 (hSw.1.seg0); (case l110 => rfl); (case l210 => rfl)
    (try simp only [List.getElem_toArray, List.getElem_cons_zero, List.getElem_cons_succ, Act.put, List.setIfInBounds_toArray, List.set_cons_zero, List.set_cons_succ])
    refine wpAnyH_ready (rs := [1]) (by kernel_rfl) (by simp) ?_
    refine AllReadyH.cons (o := _) rfl (fun K hK => ?_) AllReadyH.nil
    go_simp
    go_at_call 65; refine (HK.out _).mono ?_; rintro _ w5 ⟨a5, c5, b5, d5, rfl, r5, t5, k5⟩
    (try go_wp2_with fail)
    refine hK.out _ _ (⟨hHeld.1.kept k5 (fun h => h), hHeld.2.trans k5 fun _ _ h => h⟩) (fun hHeld => ?_)
    clear hK K
    (try simp only [List.getElem_toArray, List.getElem_cons_zero, List.getElem_cons_succ, Act.put, List.setIfInBounds_toArray, List.set_cons_zero, List.set_cons_succ])
    refine wpAnyH_ready (rs := [3]) (by kernel_rfl) (by simp) ?_
    refine AllReadyH.cons (o := _) rfl (fun K hK => ?_) AllReadyH.nil
    go_simp
    go_at_call 30; refine (HSame.out _ _ _ _ _ r5 t5 hHeld.2).mono ?_; rintro _ w6 ⟨rfl, k6⟩
    (try go_wp2_with fail)
    refine hK.out _ _ (⟨hHeld.1.kept k6 (fun h => h), hHeld.2.trans k6 fun _ _ h => h⟩) (fun hHeld => ?_)
    clear hK K
    (try simp only [List.getElem_toArray, List.getElem_cons_zero, List.getElem_cons_succ, Act.put, List.setIfInBounds_toArray, List.set_cons_zero, List.set_cons_succ])
    refine wpAnyH_take (i := 4) (oi := _) (v := ?_) rfl (by kernel_rfl) (by kernel_rfl) (by kernel_rfl) (fun _ _ _ h => h) (Or.inl ⟨by rfl, ?_⟩) (by assumption) ?_
    rotate_left
    · intro wv hSw; (try dsimp only at hSw); go_simp; (try with_reducible rfl)
    (try simp only [List.getElem_toArray, List.getElem_cons_zero, List.getElem_cons_succ, Act.put, List.setIfInBounds_toArray, List.set_cons_zero, List.set_cons_succ])
    refine wpAnyH_done (by kernel_rfl) ?_ _

    have B6 : Rc w6 50 w.heap.size m aw cw am cm := HRc.out _ hHeld.1 hHeld.2
    have K6 := hHeld.2
    clear HSame HK B1 K1 hHeld HRc
    have c8 := B6.writes
    have c0 := B6.kind
    rw [hk] at c0
    have n0 := hw0
    rw [n0] at c8
    have st := B6.tx
    go_wp2_with (first
      | (with_reducible refine wpList_ld rfl 24 _ rfl Tryz.isAgg24 3 Tryz.sizeOf24 w.heap.size 2 rfl (txv m.tx) rfl st ?_)
      | (go_at_call 66; refine (HT.out _).mono ?_; rintro _ w8 ⟨rfl, k8⟩))
    go_ret
    exact ⟨rfl, K6.trans k8 fun _ _ h => h⟩
  · skip
    go_enter Tryz.func28, Tryz.ntmps28
    go_wp2
    refine wp_region_held_drew (S := fun w' => Blk w' w.heap.size 50 (recv m aw cw am cm) ∧ Kept No w w') (by kernel_rfl) (⟨B1, K1.drew⟩) (fun hHeld => ?_)
    refine wpAnyH_take (i := 0) (oi := _) (v := ?_) rfl (by kernel_rfl) (by kernel_rfl) (by kernel_rfl) (fun _ _ _ h => h) (Or.inl ⟨by rfl, ?_⟩) (by assumption) ?_
    rotate_left
    · intro wv hSw; refine ld_val 50 ?lx11 ?l111 Tryz.isAgg50 31 Tryz.sizeOf50 w.heap.size 0 ?l211 (recv m aw cw am cm) l31 (hSw.1.seg0); (case l111 => rfl); (case l211 => rfl)
    (try simp only [List.getElem_toArray, List.getElem_cons_zero, Act.put, List.setIfInBounds_toArray, List.set_cons_zero, List.set_cons_succ])
    refine wpAnyH_take (i := 2) (oi := _) (v := ?_) rfl (by kernel_rfl) (by kernel_rfl) (by kernel_rfl) (fun _ _ _ h => h) (Or.inl ⟨by rfl, ?_⟩) (by assumption) ?_
    rotate_left
    · intro wv hSw; refine ld_val 50 ?lx12 ?l112 Tryz.isAgg50 31 Tryz.sizeOf50 w.heap.size 0 ?l212 (recv m aw cw am cm) l31 (hSw.1.seg0); (case l112 => rfl); (case l212 => rfl)
    (try simp only [List.getElem_toArray, List.getElem_cons_zero, List.getElem_cons_succ, Act.put, List.setIfInBounds_toArray, List.set_cons_zero, List.set_cons_succ])
    refine wpAnyH_ready (rs := [1]) (by kernel_rfl) (by simp) ?_
    refine AllReadyH.cons (o := _) rfl (fun K hK => ?_) AllReadyH.nil
    go_simp
    go_at_call 65; refine (HK.out _).mono ?_; rintro _ w5 ⟨a5, c5, b5, d5, rfl, r5, t5, k5⟩
    (try go_wp2_with fail)
    refine hK.out _ _ (⟨hHeld.1.kept k5 (fun h => h), hHeld.2.trans k5 fun _ _ h => h⟩) (fun hHeld => ?_)
    clear hK K
    (try simp only [List.getElem_toArray, List.getElem_cons_zero, List.getElem_cons_succ, Act.put, List.setIfInBounds_toArray, List.set_cons_zero, List.set_cons_succ])
    refine wpAnyH_ready (rs := [3]) (by kernel_rfl) (by simp) ?_
    refine AllReadyH.cons (o := _) rfl (fun K hK => ?_) AllReadyH.nil
    go_simp
    go_at_call 30; refine (HSame.out _ _ _ _ _ r5 t5 hHeld.2).mono ?_; rintro _ w6 ⟨rfl, k6⟩
    (try go_wp2_with fail)
    refine hK.out _ _ (⟨hHeld.1.kept k6 (fun h => h), hHeld.2.trans k6 fun _ _ h => h⟩) (fun hHeld => ?_)
    clear hK K
    (try simp only [List.getElem_toArray, List.getElem_cons_zero, List.getElem_cons_succ, Act.put, List.setIfInBounds_toArray, List.set_cons_zero, List.set_cons_succ])
    refine wpAnyH_take (i := 4) (oi := _) (v := ?_) rfl (by kernel_rfl) (by kernel_rfl) (by kernel_rfl) (fun _ _ _ h => h) (Or.inl ⟨by rfl, ?_⟩) (by assumption) ?_
    rotate_left
    · intro wv hSw; (try dsimp only at hSw); go_simp; (try with_reducible rfl)
    (try simp only [List.getElem_toArray, List.getElem_cons_zero, List.getElem_cons_succ, Act.put, List.setIfInBounds_toArray, List.set_cons_zero, List.set_cons_succ])
    refine wpAnyH_done (by kernel_rfl) ?_ _

    have B6 : Rc w6 50 w.heap.size m aw cw am cm := HRc.out _ hHeld.1 hHeld.2
    have K6 := hHeld.2
    clear HSame HK B1 K1 hHeld HRc
    have c8 := B6.writes
    have c0 := B6.kind
    rw [hk] at c0
    have n0 := hw0
    rw [n0] at c8
    have st := B6.tx
    go_wp2_with (first
      | (with_reducible refine wpList_ld rfl 24 _ rfl Tryz.isAgg24 3 Tryz.sizeOf24 w.heap.size 2 rfl (txv m.tx) rfl st ?_)
      | (go_at_call 66; refine (HT.out _).mono ?_; rintro _ w8 ⟨rfl, k8⟩))
    go_ret
    exact ⟨rfl, K6.trans k8 fun _ _ h => h⟩
  · skip
    go_enter Tryz.func28, Tryz.ntmps28
    go_wp2
    refine wp_region_held_drew (S := fun w' => Blk w' w.heap.size 50 (recv m aw cw am cm) ∧ Kept No w w') (by kernel_rfl) (⟨B1, K1.drew⟩) (fun hHeld => ?_)
    refine wpAnyH_take (i := 0) (oi := _) (v := ?_) rfl (by kernel_rfl) (by kernel_rfl) (by kernel_rfl) (fun _ _ _ h => h) (Or.inl ⟨by rfl, ?_⟩) (by assumption) ?_
    rotate_left
    · intro wv hSw; refine ld_val 50 ?lx13 ?l113 Tryz.isAgg50 31 Tryz.sizeOf50 w.heap.size 0 ?l213 (recv m aw cw am cm) l31 (hSw.1.seg0); (case l113 => rfl); (case l213 => rfl)
    (try simp only [List.getElem_toArray, List.getElem_cons_zero, Act.put, List.setIfInBounds_toArray, List.set_cons_zero, List.set_cons_succ])
    refine wpAnyH_take (i := 2) (oi := _) (v := ?_) rfl (by kernel_rfl) (by kernel_rfl) (by kernel_rfl) (fun _ _ _ h => h) (Or.inl ⟨by rfl, ?_⟩) (by assumption) ?_
    rotate_left
    · intro wv hSw; refine ld_val 50 ?lx14 ?l114 Tryz.isAgg50 31 Tryz.sizeOf50 w.heap.size 0 ?l214 (recv m aw cw am cm) l31 (hSw.1.seg0); (case l114 => rfl); (case l214 => rfl)
    (try simp only [List.getElem_toArray, List.getElem_cons_zero, List.getElem_cons_succ, Act.put, List.setIfInBounds_toArray, List.set_cons_zero, List.set_cons_succ])
    refine wpAnyH_ready (rs := [1]) (by kernel_rfl) (by simp) ?_
    refine AllReadyH.cons (o := _) rfl (fun K hK => ?_) AllReadyH.nil
    go_simp
    go_at_call 65; refine (HK.out _).mono ?_; rintro _ w5 ⟨a5, c5, b5, d5, rfl, r5, t5, k5⟩
    (try go_wp2_with fail)
    refine hK.out _ _ (⟨hHeld.1.kept k5 (fun h => h), hHeld.2.trans k5 fun _ _ h => h⟩) (fun hHeld => ?_)
    clear hK K
    (try simp only [List.getElem_toArray, List.getElem_cons_zero, List.getElem_cons_succ, Act.put, List.setIfInBounds_toArray, List.set_cons_zero, List.set_cons_succ])
    refine wpAnyH_ready (rs := [3]) (by kernel_rfl) (by simp) ?_
    refine AllReadyH.cons (o := _) rfl (fun K hK => ?_) AllReadyH.nil
    go_simp
    go_at_call 30; refine (HSame.out _ _ _ _ _ r5 t5 hHeld.2).mono ?_; rintro _ w6 ⟨rfl, k6⟩
    (try go_wp2_with fail)
    refine hK.out _ _ (⟨hHeld.1.kept k6 (fun h => h), hHeld.2.trans k6 fun _ _ h => h⟩) (fun hHeld => ?_)
    clear hK K
    (try simp only [List.getElem_toArray, List.getElem_cons_zero, List.getElem_cons_succ, Act.put, List.setIfInBounds_toArray, List.set_cons_zero, List.set_cons_succ])
    refine wpAnyH_take (i := 4) (oi := _) (v := ?_) rfl (by kernel_rfl) (by kernel_rfl) (by kernel_rfl) (fun _ _ _ h => h) (Or.inl ⟨by rfl, ?_⟩) (by assumption) ?_
    rotate_left
    · intro wv hSw; (try dsimp only at hSw); go_simp; (try with_reducible rfl)
    (try simp only [List.getElem_toArray, List.getElem_cons_zero, List.getElem_cons_succ, Act.put, List.setIfInBounds_toArray, List.set_cons_zero, List.set_cons_succ])
    refine wpAnyH_done (by kernel_rfl) ?_ _

    have B6 : Rc w6 50 w.heap.size m aw cw am cm := HRc.out _ hHeld.1 hHeld.2
    have K6 := hHeld.2
    clear HSame HK B1 K1 hHeld HRc
    have c8 := B6.writes
    have c0 := B6.kind
    rw [hk] at c0
    have n0 := hw0
    rw [n0] at c8
    have st := B6.tx
    go_wp2_with (first
      | (with_reducible refine wpList_ld rfl 24 _ rfl Tryz.isAgg24 3 Tryz.sizeOf24 w.heap.size 2 rfl (txv m.tx) rfl st ?_)
      | (go_at_call 66; refine (HT.out _).mono ?_; rintro _ w8 ⟨rfl, k8⟩))
    go_ret
    exact ⟨rfl, K6.trans k8 fun _ _ h => h⟩
set_option maxRecDepth 100000 in
set_option maxHeartbeats 2000000 in
theorem refRMay_0 (m : PRec) (hm : m.Wf) (hs : m.Sm) (hk : rdx m.kind = []) (hS : sameR (keptR m) m = true) (aw : Option Addr) (cw : Nat) (am : Option Addr) (cm : Nat) (hrw : Rd w aw (pwsv m.writes)) (hrm : Rd w am (ucells m.missing)) (haw : ∀ b, At aw b → b < w.heap.size) (ham : ∀ b, At am b → b < w.heap.size) :
    Calls Tryz.prog 28 #[.agg (recv m aw cw am cm).toArray] w fun e w' => e = .returned (.bool (rMay m)) ∧ Kept No w w' := by
  have B1 := Blk.new w 50 (recv m aw cw am cm)
  have K1 := (Kept.refl No w).alloc (.cells (recv m aw cw am cm).toArray 50)
  have l31 := recv_length hm aw cw am cm
  have HK := Lib.hid (fun w => refKeptR_calls (w := w) m hm aw cw am cm)
  have HSame := Lib.hid (fun (wq : World) (a5 : Option Addr) (c5 : Nat) (b5 : Option Addr) (d5 : Nat) (r5 : ∀ wq, Rd wq aw (pwsv m.writes) → Rd wq a5 (pwsv (keptR m).writes)) (t5 : ∀ wq, Rd wq am (ucells m.missing) → Rd wq b5 (ucells (keptR m).missing)) (k : Kept No w wq) => refRSame_calls (w := wq) (keptR m) m a5 b5 aw am c5 d5 cw cm (keptR_wf hm) hm (keptR_sm hs) hs (r5 _ (hrw.keptNo k)) (t5 _ (hrm.keptNo k)) (hrw.keptNo k) (hrm.keptNo k))
  have HRc := Lib.hid (show ∀ wq : World, Blk wq w.heap.size 50 (recv m aw cw am cm) → Kept No w wq → Rc wq 50 w.heap.size m aw cw am cm from fun wq h k => ⟨h, hrw.keptNo k, hrm.keptNo k, fun b hb => k.lt (haw b hb), fun b hb => k.lt (ham b hb), hm, hs⟩)
  have hR := sameR_all hS
  have hB := keptR_may hR
  rw [hS] at HSame
  rw [hB]
  clear hB hS
  obtain ⟨h1, h2, h3, h4, h5, h6, h7⟩ := rfx_none hk
  have hw0 : m.writes.length = 0 := by rw [← hR]; unfold keptR; rw [if_neg h1, if_neg h2, if_neg (by omega), if_neg h5, if_neg h7]; rfl
  have hb : rBody m = false := by unfold rBody; rw [if_neg h1, if_neg h2, if_neg (by omega), if_neg h5, if_neg h7]
  rw [hb]
  have q1 : ((m.kind : Int) == 1) = false := beq_eq_false_iff_ne.2 (by omega)
  have q2 : ((m.kind : Int) == 2) = false := beq_eq_false_iff_ne.2 (by omega)
  have q3 : ((m.kind : Int) == 3) = false := beq_eq_false_iff_ne.2 (by omega)
  have q4 : ((m.kind : Int) == 4) = false := beq_eq_false_iff_ne.2 (by omega)
  have q5 : ((m.kind : Int) == 5) = false := beq_eq_false_iff_ne.2 (by omega)
  have q6 : ((m.kind : Int) == 6) = false := beq_eq_false_iff_ne.2 (by omega)
  have q7 : ((m.kind : Int) == 7) = false := beq_eq_false_iff_ne.2 (by omega)
  clear hb hR h1 h2 h3 h4 h5 h6 h7 hk
  go_enter Tryz.func28, Tryz.ntmps28
  go_wp2
  refine wp_region_held_drew (S := fun w' => Blk w' w.heap.size 50 (recv m aw cw am cm) ∧ Kept No w w') (by kernel_rfl) (⟨B1, K1.drew⟩) (fun hHeld => ?_)
  refine wpAnyH_take (i := 0) (oi := _) (v := ?_) rfl (by kernel_rfl) (by kernel_rfl) (by kernel_rfl) (fun _ _ _ h => h) (Or.inl ⟨by rfl, ?_⟩) (by assumption) ?_
  rotate_left
  · intro wv hSw; refine ld_val 50 ?lx15 ?l115 Tryz.isAgg50 31 Tryz.sizeOf50 w.heap.size 0 ?l215 (recv m aw cw am cm) l31 (hSw.1.seg0); (case l115 => rfl); (case l215 => rfl)
  (try simp only [List.getElem_toArray, List.getElem_cons_zero, Act.put, List.setIfInBounds_toArray, List.set_cons_zero, List.set_cons_succ])
  refine wpAnyH_take (i := 2) (oi := _) (v := ?_) rfl (by kernel_rfl) (by kernel_rfl) (by kernel_rfl) (fun _ _ _ h => h) (Or.inl ⟨by rfl, ?_⟩) (by assumption) ?_
  rotate_left
  · intro wv hSw; refine ld_val 50 ?lx16 ?l116 Tryz.isAgg50 31 Tryz.sizeOf50 w.heap.size 0 ?l216 (recv m aw cw am cm) l31 (hSw.1.seg0); (case l116 => rfl); (case l216 => rfl)
  (try simp only [List.getElem_toArray, List.getElem_cons_zero, List.getElem_cons_succ, Act.put, List.setIfInBounds_toArray, List.set_cons_zero, List.set_cons_succ])
  refine wpAnyH_ready (rs := [1]) (by kernel_rfl) (by simp) ?_
  refine AllReadyH.cons (o := _) rfl (fun K hK => ?_) AllReadyH.nil
  go_simp
  go_at_call 65; refine (HK.out _).mono ?_; rintro _ w5 ⟨a5, c5, b5, d5, rfl, r5, t5, k5⟩
  (try go_wp2_with fail)
  refine hK.out _ _ (⟨hHeld.1.kept k5 (fun h => h), hHeld.2.trans k5 fun _ _ h => h⟩) (fun hHeld => ?_)
  clear hK K
  (try simp only [List.getElem_toArray, List.getElem_cons_zero, List.getElem_cons_succ, Act.put, List.setIfInBounds_toArray, List.set_cons_zero, List.set_cons_succ])
  refine wpAnyH_ready (rs := [3]) (by kernel_rfl) (by simp) ?_
  refine AllReadyH.cons (o := _) rfl (fun K hK => ?_) AllReadyH.nil
  go_simp
  go_at_call 30; refine (HSame.out _ _ _ _ _ r5 t5 hHeld.2).mono ?_; rintro _ w6 ⟨rfl, k6⟩
  (try go_wp2_with fail)
  refine hK.out _ _ (⟨hHeld.1.kept k6 (fun h => h), hHeld.2.trans k6 fun _ _ h => h⟩) (fun hHeld => ?_)
  clear hK K
  (try simp only [List.getElem_toArray, List.getElem_cons_zero, List.getElem_cons_succ, Act.put, List.setIfInBounds_toArray, List.set_cons_zero, List.set_cons_succ])
  refine wpAnyH_take (i := 4) (oi := _) (v := ?_) rfl (by kernel_rfl) (by kernel_rfl) (by kernel_rfl) (fun _ _ _ h => h) (Or.inl ⟨by rfl, ?_⟩) (by assumption) ?_
  rotate_left
  · intro wv hSw; (try dsimp only at hSw); go_simp; (try with_reducible rfl)
  (try simp only [List.getElem_toArray, List.getElem_cons_zero, List.getElem_cons_succ, Act.put, List.setIfInBounds_toArray, List.set_cons_zero, List.set_cons_succ])
  refine wpAnyH_done (by kernel_rfl) ?_ _

  have B6 : Rc w6 50 w.heap.size m aw cw am cm := HRc.out _ hHeld.1 hHeld.2
  have K6 := hHeld.2
  clear HSame HK B1 K1 hHeld HRc
  have c8 := B6.writes
  have c0 := B6.kind
  have n0 := hw0
  rw [n0] at c8
  go_wp2
  go_ret
  exact ⟨rfl, K6⟩
set_option maxRecDepth 100000 in
set_option maxHeartbeats 2000000 in
theorem refRMay_7 (m : PRec) (hm : m.Wf) (hs : m.Sm) (hk : m.kind = 7) (hS : sameR (keptR m) m = true) (aw : Option Addr) (cw : Nat) (am : Option Addr) (cm : Nat) (hrw : Rd w aw (pwsv m.writes)) (hrm : Rd w am (ucells m.missing)) (haw : ∀ b, At aw b → b < w.heap.size) (ham : ∀ b, At am b → b < w.heap.size) :
    Calls Tryz.prog 28 #[.agg (recv m aw cw am cm).toArray] w fun e w' => e = .returned (.bool (rMay m)) ∧ Kept No w w' := by
  have B1 := Blk.new w 50 (recv m aw cw am cm)
  have K1 := (Kept.refl No w).alloc (.cells (recv m aw cw am cm).toArray 50)
  have l31 := recv_length hm aw cw am cm
  have HK := Lib.hid (fun w => refKeptR_calls (w := w) m hm aw cw am cm)
  have HSame := Lib.hid (fun (wq : World) (a5 : Option Addr) (c5 : Nat) (b5 : Option Addr) (d5 : Nat) (r5 : ∀ wq, Rd wq aw (pwsv m.writes) → Rd wq a5 (pwsv (keptR m).writes)) (t5 : ∀ wq, Rd wq am (ucells m.missing) → Rd wq b5 (ucells (keptR m).missing)) (k : Kept No w wq) => refRSame_calls (w := wq) (keptR m) m a5 b5 aw am c5 d5 cw cm (keptR_wf hm) hm (keptR_sm hs) hs (r5 _ (hrw.keptNo k)) (t5 _ (hrm.keptNo k)) (hrw.keptNo k) (hrm.keptNo k))
  have HRc := Lib.hid (show ∀ wq : World, Blk wq w.heap.size 50 (recv m aw cw am cm) → Kept No w wq → Rc wq 50 w.heap.size m aw cw am cm from fun wq h k => ⟨h, hrw.keptNo k, hrm.keptNo k, fun b hb => k.lt (haw b hb), fun b hb => k.lt (ham b hb), hm, hs⟩)
  have hR := sameR_all hS
  have hB := keptR_may hR
  rw [hS] at HSame
  rw [hB]
  clear hB hS
  have hw0 : m.writes.length = 0 := by rw [← hR]; unfold keptR; rw [if_neg (by omega), if_neg (by omega), if_neg (by omega), if_neg (by omega), if_pos hk]; rfl
  have hb : rBody m = (keyOk m.key && itemMay m.item) := by unfold rBody; rw [if_neg (by omega), if_neg (by omega), if_neg (by omega), if_neg (by omega), if_pos hk]
  rw [hb]
  have HKy := Lib.hid (fun wq => refKeyMay_calls (w := wq) m.key hm.key)
  have HIt := Lib.hid (fun wq => refItemMay_calls (w := wq) m.item hm.item hs.item)
  have li := itemv_length hm.item
  have lk : (bcells m.key).length = 8 := by rw [bcells_length, hm.key]
  clear hb hR
  generalize itemMay m.item = im at *
  cases ek : keyOk m.key <;> rw [ek] at HKy <;> clear ek
  · skip
    go_enter Tryz.func28, Tryz.ntmps28
    go_wp2
    refine wp_region_held_drew (S := fun w' => Blk w' w.heap.size 50 (recv m aw cw am cm) ∧ Kept No w w') (by kernel_rfl) (⟨B1, K1.drew⟩) (fun hHeld => ?_)
    refine wpAnyH_take (i := 0) (oi := _) (v := ?_) rfl (by kernel_rfl) (by kernel_rfl) (by kernel_rfl) (fun _ _ _ h => h) (Or.inl ⟨by rfl, ?_⟩) (by assumption) ?_
    rotate_left
    · intro wv hSw; refine ld_val 50 ?lx17 ?l117 Tryz.isAgg50 31 Tryz.sizeOf50 w.heap.size 0 ?l217 (recv m aw cw am cm) l31 (hSw.1.seg0); (case l117 => rfl); (case l217 => rfl)
    (try simp only [List.getElem_toArray, List.getElem_cons_zero, Act.put, List.setIfInBounds_toArray, List.set_cons_zero, List.set_cons_succ])
    refine wpAnyH_take (i := 2) (oi := _) (v := ?_) rfl (by kernel_rfl) (by kernel_rfl) (by kernel_rfl) (fun _ _ _ h => h) (Or.inl ⟨by rfl, ?_⟩) (by assumption) ?_
    rotate_left
    · intro wv hSw; refine ld_val 50 ?lx18 ?l118 Tryz.isAgg50 31 Tryz.sizeOf50 w.heap.size 0 ?l218 (recv m aw cw am cm) l31 (hSw.1.seg0); (case l118 => rfl); (case l218 => rfl)
    (try simp only [List.getElem_toArray, List.getElem_cons_zero, List.getElem_cons_succ, Act.put, List.setIfInBounds_toArray, List.set_cons_zero, List.set_cons_succ])
    refine wpAnyH_ready (rs := [1]) (by kernel_rfl) (by simp) ?_
    refine AllReadyH.cons (o := _) rfl (fun K hK => ?_) AllReadyH.nil
    go_simp
    go_at_call 65; refine (HK.out _).mono ?_; rintro _ w5 ⟨a5, c5, b5, d5, rfl, r5, t5, k5⟩
    (try go_wp2_with fail)
    refine hK.out _ _ (⟨hHeld.1.kept k5 (fun h => h), hHeld.2.trans k5 fun _ _ h => h⟩) (fun hHeld => ?_)
    clear hK K
    (try simp only [List.getElem_toArray, List.getElem_cons_zero, List.getElem_cons_succ, Act.put, List.setIfInBounds_toArray, List.set_cons_zero, List.set_cons_succ])
    refine wpAnyH_ready (rs := [3]) (by kernel_rfl) (by simp) ?_
    refine AllReadyH.cons (o := _) rfl (fun K hK => ?_) AllReadyH.nil
    go_simp
    go_at_call 30; refine (HSame.out _ _ _ _ _ r5 t5 hHeld.2).mono ?_; rintro _ w6 ⟨rfl, k6⟩
    (try go_wp2_with fail)
    refine hK.out _ _ (⟨hHeld.1.kept k6 (fun h => h), hHeld.2.trans k6 fun _ _ h => h⟩) (fun hHeld => ?_)
    clear hK K
    (try simp only [List.getElem_toArray, List.getElem_cons_zero, List.getElem_cons_succ, Act.put, List.setIfInBounds_toArray, List.set_cons_zero, List.set_cons_succ])
    refine wpAnyH_take (i := 4) (oi := _) (v := ?_) rfl (by kernel_rfl) (by kernel_rfl) (by kernel_rfl) (fun _ _ _ h => h) (Or.inl ⟨by rfl, ?_⟩) (by assumption) ?_
    rotate_left
    · intro wv hSw; (try dsimp only at hSw); go_simp; (try with_reducible rfl)
    (try simp only [List.getElem_toArray, List.getElem_cons_zero, List.getElem_cons_succ, Act.put, List.setIfInBounds_toArray, List.set_cons_zero, List.set_cons_succ])
    refine wpAnyH_done (by kernel_rfl) ?_ _

    have B6 : Rc w6 50 w.heap.size m aw cw am cm := HRc.out _ hHeld.1 hHeld.2
    have K6 := hHeld.2
    clear HSame HK B1 K1 hHeld HRc
    have c8 := B6.writes
    have c0 := B6.kind
    rw [hk] at c0
    have n0 := hw0
    rw [n0] at c8
    have sk := B6.key
    go_wp2_with (first
      | (with_reducible refine wpList_ld rfl 28 _ rfl Tryz.isAgg28 8 Tryz.sizeOf28 w.heap.size 10 rfl (bcells m.key) lk sk ?_)
      | (go_at_call 57; refine (HKy.out _).mono ?_; rintro _ w8 ⟨rfl, k8⟩; have si := (B6.keptNo k8).item)
      | fail)
    go_ret
    exact ⟨by rfl, K6.trans k8 fun _ _ h => h⟩
  · skip
    go_enter Tryz.func28, Tryz.ntmps28
    go_wp2
    refine wp_region_held_drew (S := fun w' => Blk w' w.heap.size 50 (recv m aw cw am cm) ∧ Kept No w w') (by kernel_rfl) (⟨B1, K1.drew⟩) (fun hHeld => ?_)
    refine wpAnyH_take (i := 0) (oi := _) (v := ?_) rfl (by kernel_rfl) (by kernel_rfl) (by kernel_rfl) (fun _ _ _ h => h) (Or.inl ⟨by rfl, ?_⟩) (by assumption) ?_
    rotate_left
    · intro wv hSw; refine ld_val 50 ?lx19 ?l119 Tryz.isAgg50 31 Tryz.sizeOf50 w.heap.size 0 ?l219 (recv m aw cw am cm) l31 (hSw.1.seg0); (case l119 => rfl); (case l219 => rfl)
    (try simp only [List.getElem_toArray, List.getElem_cons_zero, Act.put, List.setIfInBounds_toArray, List.set_cons_zero, List.set_cons_succ])
    refine wpAnyH_take (i := 2) (oi := _) (v := ?_) rfl (by kernel_rfl) (by kernel_rfl) (by kernel_rfl) (fun _ _ _ h => h) (Or.inl ⟨by rfl, ?_⟩) (by assumption) ?_
    rotate_left
    · intro wv hSw; refine ld_val 50 ?lx20 ?l120 Tryz.isAgg50 31 Tryz.sizeOf50 w.heap.size 0 ?l220 (recv m aw cw am cm) l31 (hSw.1.seg0); (case l120 => rfl); (case l220 => rfl)
    (try simp only [List.getElem_toArray, List.getElem_cons_zero, List.getElem_cons_succ, Act.put, List.setIfInBounds_toArray, List.set_cons_zero, List.set_cons_succ])
    refine wpAnyH_ready (rs := [1]) (by kernel_rfl) (by simp) ?_
    refine AllReadyH.cons (o := _) rfl (fun K hK => ?_) AllReadyH.nil
    go_simp
    go_at_call 65; refine (HK.out _).mono ?_; rintro _ w5 ⟨a5, c5, b5, d5, rfl, r5, t5, k5⟩
    (try go_wp2_with fail)
    refine hK.out _ _ (⟨hHeld.1.kept k5 (fun h => h), hHeld.2.trans k5 fun _ _ h => h⟩) (fun hHeld => ?_)
    clear hK K
    (try simp only [List.getElem_toArray, List.getElem_cons_zero, List.getElem_cons_succ, Act.put, List.setIfInBounds_toArray, List.set_cons_zero, List.set_cons_succ])
    refine wpAnyH_ready (rs := [3]) (by kernel_rfl) (by simp) ?_
    refine AllReadyH.cons (o := _) rfl (fun K hK => ?_) AllReadyH.nil
    go_simp
    go_at_call 30; refine (HSame.out _ _ _ _ _ r5 t5 hHeld.2).mono ?_; rintro _ w6 ⟨rfl, k6⟩
    (try go_wp2_with fail)
    refine hK.out _ _ (⟨hHeld.1.kept k6 (fun h => h), hHeld.2.trans k6 fun _ _ h => h⟩) (fun hHeld => ?_)
    clear hK K
    (try simp only [List.getElem_toArray, List.getElem_cons_zero, List.getElem_cons_succ, Act.put, List.setIfInBounds_toArray, List.set_cons_zero, List.set_cons_succ])
    refine wpAnyH_take (i := 4) (oi := _) (v := ?_) rfl (by kernel_rfl) (by kernel_rfl) (by kernel_rfl) (fun _ _ _ h => h) (Or.inl ⟨by rfl, ?_⟩) (by assumption) ?_
    rotate_left
    · intro wv hSw; (try dsimp only at hSw); go_simp; (try with_reducible rfl)
    (try simp only [List.getElem_toArray, List.getElem_cons_zero, List.getElem_cons_succ, Act.put, List.setIfInBounds_toArray, List.set_cons_zero, List.set_cons_succ])
    refine wpAnyH_done (by kernel_rfl) ?_ _

    have B6 : Rc w6 50 w.heap.size m aw cw am cm := HRc.out _ hHeld.1 hHeld.2
    have K6 := hHeld.2
    clear HSame HK B1 K1 hHeld HRc
    have c8 := B6.writes
    have c0 := B6.kind
    rw [hk] at c0
    have n0 := hw0
    rw [n0] at c8
    have sk := B6.key
    go_wp2_with (first
      | (with_reducible refine wpList_ld rfl 28 _ rfl Tryz.isAgg28 8 Tryz.sizeOf28 w.heap.size 10 rfl (bcells m.key) lk sk ?_)
      | (go_at_call 57; refine (HKy.out _).mono ?_; rintro _ w8 ⟨rfl, k8⟩; have si := (B6.keptNo k8).item)
      | (with_reducible refine wpList_ld rfl 32 _ rfl Tryz.isAgg32 13 Tryz.sizeOf32 w.heap.size 18 rfl (itemv m.item) li si ?_)
      | (go_at_call 22; refine (HIt.out _).mono ?_; rintro _ w9 ⟨rfl, k9⟩)
      | fail)
    go_ret
    exact ⟨by rfl, (K6.trans k8 fun _ _ h => h).trans k9 fun _ _ h => h⟩
set_option maxRecDepth 100000 in
set_option maxHeartbeats 2000000 in
theorem refRMay_2 (m : PRec) (hm : m.Wf) (hs : m.Sm) (hk : m.kind = 2) (hS : sameR (keptR m) m = true) (aw : Option Addr) (cw : Nat) (am : Option Addr) (cm : Nat) (hrw : Rd w aw (pwsv m.writes)) (hrm : Rd w am (ucells m.missing)) (haw : ∀ b, At aw b → b < w.heap.size) (ham : ∀ b, At am b → b < w.heap.size) :
    Calls Tryz.prog 28 #[.agg (recv m aw cw am cm).toArray] w fun e w' => e = .returned (.bool (rMay m)) ∧ Kept No w w' := by
  have B1 := Blk.new w 50 (recv m aw cw am cm)
  have K1 := (Kept.refl No w).alloc (.cells (recv m aw cw am cm).toArray 50)
  have l31 := recv_length hm aw cw am cm
  have HK := Lib.hid (fun w => refKeptR_calls (w := w) m hm aw cw am cm)
  have HSame := Lib.hid (fun (wq : World) (a5 : Option Addr) (c5 : Nat) (b5 : Option Addr) (d5 : Nat) (r5 : ∀ wq, Rd wq aw (pwsv m.writes) → Rd wq a5 (pwsv (keptR m).writes)) (t5 : ∀ wq, Rd wq am (ucells m.missing) → Rd wq b5 (ucells (keptR m).missing)) (k : Kept No w wq) => refRSame_calls (w := wq) (keptR m) m a5 b5 aw am c5 d5 cw cm (keptR_wf hm) hm (keptR_sm hs) hs (r5 _ (hrw.keptNo k)) (t5 _ (hrm.keptNo k)) (hrw.keptNo k) (hrm.keptNo k))
  have HRc := Lib.hid (show ∀ wq : World, Blk wq w.heap.size 50 (recv m aw cw am cm) → Kept No w wq → Rc wq 50 w.heap.size m aw cw am cm from fun wq h k => ⟨h, hrw.keptNo k, hrm.keptNo k, fun b hb => k.lt (haw b hb), fun b hb => k.lt (ham b hb), hm, hs⟩)
  have HW := Lib.hid (fun (wq : World) (k : Kept No w wq) => refWritesMay_calls (w := wq) m.writes m.writes.length rfl aw cw hm.writes hs.each (hrw.keptNo k) hs.many)
  have HT := Lib.hid (fun wq => refTxMay_calls (w := wq) m.tx hm.tx)
  have hR := sameR_all hS
  have hB := keptR_may hR
  rw [hS] at HSame
  rw [hB]
  clear hB hS
  have hb : rBody m = (txMay m.tx && regMay m.reg && someMay m) := by unfold rBody; rw [if_neg (by omega), if_pos hk]
  rw [hb]
  have HRg := Lib.hid (fun wq => refRegMay_calls (w := wq) m.reg hm.reg)
  clear hb hR
  cases er : regMay m.reg <;> rw [er] at HRg <;> clear er
  · skip
    by_cases hw : m.writes = []
    · have hw0 : m.writes.length = 0 := by rw [hw]; rfl
      rw [someMay_nil hw]
      clear hw
      cases et : txMay m.tx <;> rw [et] at HT <;> clear et
      · skip
        go_enter Tryz.func28, Tryz.ntmps28
        go_wp2
        refine wp_region_held_drew (S := fun w' => Blk w' w.heap.size 50 (recv m aw cw am cm) ∧ Kept No w w') (by kernel_rfl) (⟨B1, K1.drew⟩) (fun hHeld => ?_)
        refine wpAnyH_take (i := 0) (oi := _) (v := ?_) rfl (by kernel_rfl) (by kernel_rfl) (by kernel_rfl) (fun _ _ _ h => h) (Or.inl ⟨by rfl, ?_⟩) (by assumption) ?_
        rotate_left
        · intro wv hSw; refine ld_val 50 ?lx21 ?l121 Tryz.isAgg50 31 Tryz.sizeOf50 w.heap.size 0 ?l221 (recv m aw cw am cm) l31 (hSw.1.seg0); (case l121 => rfl); (case l221 => rfl)
        (try simp only [List.getElem_toArray, List.getElem_cons_zero, Act.put, List.setIfInBounds_toArray, List.set_cons_zero, List.set_cons_succ])
        refine wpAnyH_take (i := 2) (oi := _) (v := ?_) rfl (by kernel_rfl) (by kernel_rfl) (by kernel_rfl) (fun _ _ _ h => h) (Or.inl ⟨by rfl, ?_⟩) (by assumption) ?_
        rotate_left
        · intro wv hSw; refine ld_val 50 ?lx22 ?l122 Tryz.isAgg50 31 Tryz.sizeOf50 w.heap.size 0 ?l222 (recv m aw cw am cm) l31 (hSw.1.seg0); (case l122 => rfl); (case l222 => rfl)
        (try simp only [List.getElem_toArray, List.getElem_cons_zero, List.getElem_cons_succ, Act.put, List.setIfInBounds_toArray, List.set_cons_zero, List.set_cons_succ])
        refine wpAnyH_ready (rs := [1]) (by kernel_rfl) (by simp) ?_
        refine AllReadyH.cons (o := _) rfl (fun K hK => ?_) AllReadyH.nil
        go_simp
        go_at_call 65; refine (HK.out _).mono ?_; rintro _ w5 ⟨a5, c5, b5, d5, rfl, r5, t5, k5⟩
        (try go_wp2_with fail)
        refine hK.out _ _ (⟨hHeld.1.kept k5 (fun h => h), hHeld.2.trans k5 fun _ _ h => h⟩) (fun hHeld => ?_)
        clear hK K
        (try simp only [List.getElem_toArray, List.getElem_cons_zero, List.getElem_cons_succ, Act.put, List.setIfInBounds_toArray, List.set_cons_zero, List.set_cons_succ])
        refine wpAnyH_ready (rs := [3]) (by kernel_rfl) (by simp) ?_
        refine AllReadyH.cons (o := _) rfl (fun K hK => ?_) AllReadyH.nil
        go_simp
        go_at_call 30; refine (HSame.out _ _ _ _ _ r5 t5 hHeld.2).mono ?_; rintro _ w6 ⟨rfl, k6⟩
        (try go_wp2_with fail)
        refine hK.out _ _ (⟨hHeld.1.kept k6 (fun h => h), hHeld.2.trans k6 fun _ _ h => h⟩) (fun hHeld => ?_)
        clear hK K
        (try simp only [List.getElem_toArray, List.getElem_cons_zero, List.getElem_cons_succ, Act.put, List.setIfInBounds_toArray, List.set_cons_zero, List.set_cons_succ])
        refine wpAnyH_take (i := 4) (oi := _) (v := ?_) rfl (by kernel_rfl) (by kernel_rfl) (by kernel_rfl) (fun _ _ _ h => h) (Or.inl ⟨by rfl, ?_⟩) (by assumption) ?_
        rotate_left
        · intro wv hSw; (try dsimp only at hSw); go_simp; (try with_reducible rfl)
        (try simp only [List.getElem_toArray, List.getElem_cons_zero, List.getElem_cons_succ, Act.put, List.setIfInBounds_toArray, List.set_cons_zero, List.set_cons_succ])
        refine wpAnyH_done (by kernel_rfl) ?_ _

        have B6 : Rc w6 50 w.heap.size m aw cw am cm := HRc.out _ hHeld.1 hHeld.2
        have K6 := hHeld.2
        clear HSame HK B1 K1 hHeld HRc
        have c8 := B6.writes
        have c0 := B6.kind
        rw [hk] at c0
        have n0 := hw0
        rw [n0] at c8
        have st := B6.tx
        go_wp2_with (first
          | (with_reducible refine wpList_ld rfl 24 _ rfl Tryz.isAgg24 3 Tryz.sizeOf24 w.heap.size 2 rfl (txv m.tx) rfl st ?_)
          | (go_at_call 66; refine (HT.out _).mono ?_; rintro _ w8 ⟨rfl, k8⟩; have sr := (B6.keptNo k8).reg)
          | fail)
        go_ret
        exact ⟨by rfl, K6.trans k8 fun _ _ h => h⟩
      · skip
        go_enter Tryz.func28, Tryz.ntmps28
        go_wp2
        refine wp_region_held_drew (S := fun w' => Blk w' w.heap.size 50 (recv m aw cw am cm) ∧ Kept No w w') (by kernel_rfl) (⟨B1, K1.drew⟩) (fun hHeld => ?_)
        refine wpAnyH_take (i := 0) (oi := _) (v := ?_) rfl (by kernel_rfl) (by kernel_rfl) (by kernel_rfl) (fun _ _ _ h => h) (Or.inl ⟨by rfl, ?_⟩) (by assumption) ?_
        rotate_left
        · intro wv hSw; refine ld_val 50 ?lx21 ?l121 Tryz.isAgg50 31 Tryz.sizeOf50 w.heap.size 0 ?l221 (recv m aw cw am cm) l31 (hSw.1.seg0); (case l121 => rfl); (case l221 => rfl)
        (try simp only [List.getElem_toArray, List.getElem_cons_zero, Act.put, List.setIfInBounds_toArray, List.set_cons_zero, List.set_cons_succ])
        refine wpAnyH_take (i := 2) (oi := _) (v := ?_) rfl (by kernel_rfl) (by kernel_rfl) (by kernel_rfl) (fun _ _ _ h => h) (Or.inl ⟨by rfl, ?_⟩) (by assumption) ?_
        rotate_left
        · intro wv hSw; refine ld_val 50 ?lx22 ?l122 Tryz.isAgg50 31 Tryz.sizeOf50 w.heap.size 0 ?l222 (recv m aw cw am cm) l31 (hSw.1.seg0); (case l122 => rfl); (case l222 => rfl)
        (try simp only [List.getElem_toArray, List.getElem_cons_zero, List.getElem_cons_succ, Act.put, List.setIfInBounds_toArray, List.set_cons_zero, List.set_cons_succ])
        refine wpAnyH_ready (rs := [1]) (by kernel_rfl) (by simp) ?_
        refine AllReadyH.cons (o := _) rfl (fun K hK => ?_) AllReadyH.nil
        go_simp
        go_at_call 65; refine (HK.out _).mono ?_; rintro _ w5 ⟨a5, c5, b5, d5, rfl, r5, t5, k5⟩
        (try go_wp2_with fail)
        refine hK.out _ _ (⟨hHeld.1.kept k5 (fun h => h), hHeld.2.trans k5 fun _ _ h => h⟩) (fun hHeld => ?_)
        clear hK K
        (try simp only [List.getElem_toArray, List.getElem_cons_zero, List.getElem_cons_succ, Act.put, List.setIfInBounds_toArray, List.set_cons_zero, List.set_cons_succ])
        refine wpAnyH_ready (rs := [3]) (by kernel_rfl) (by simp) ?_
        refine AllReadyH.cons (o := _) rfl (fun K hK => ?_) AllReadyH.nil
        go_simp
        go_at_call 30; refine (HSame.out _ _ _ _ _ r5 t5 hHeld.2).mono ?_; rintro _ w6 ⟨rfl, k6⟩
        (try go_wp2_with fail)
        refine hK.out _ _ (⟨hHeld.1.kept k6 (fun h => h), hHeld.2.trans k6 fun _ _ h => h⟩) (fun hHeld => ?_)
        clear hK K
        (try simp only [List.getElem_toArray, List.getElem_cons_zero, List.getElem_cons_succ, Act.put, List.setIfInBounds_toArray, List.set_cons_zero, List.set_cons_succ])
        refine wpAnyH_take (i := 4) (oi := _) (v := ?_) rfl (by kernel_rfl) (by kernel_rfl) (by kernel_rfl) (fun _ _ _ h => h) (Or.inl ⟨by rfl, ?_⟩) (by assumption) ?_
        rotate_left
        · intro wv hSw; (try dsimp only at hSw); go_simp; (try with_reducible rfl)
        (try simp only [List.getElem_toArray, List.getElem_cons_zero, List.getElem_cons_succ, Act.put, List.setIfInBounds_toArray, List.set_cons_zero, List.set_cons_succ])
        refine wpAnyH_done (by kernel_rfl) ?_ _

        have B6 : Rc w6 50 w.heap.size m aw cw am cm := HRc.out _ hHeld.1 hHeld.2
        have K6 := hHeld.2
        clear HSame HK B1 K1 hHeld HRc
        have c8 := B6.writes
        have c0 := B6.kind
        rw [hk] at c0
        have n0 := hw0
        rw [n0] at c8
        have st := B6.tx
        go_wp2_with (first
          | (with_reducible refine wpList_ld rfl 24 _ rfl Tryz.isAgg24 3 Tryz.sizeOf24 w.heap.size 2 rfl (txv m.tx) rfl st ?_)
          | (go_at_call 66; refine (HT.out _).mono ?_; rintro _ w8 ⟨rfl, k8⟩; have sr := (B6.keptNo k8).reg)
          | (with_reducible refine wpList_ld rfl 26 _ rfl Tryz.isAgg26 2 Tryz.sizeOf26 w.heap.size 5 rfl (regv m.reg) rfl sr ?_)
          | (go_at_call 67; refine (HRg.out _).mono ?_; rintro _ w9 ⟨rfl, k9⟩)
          | fail)
        go_ret
        exact ⟨by rfl, (K6.trans k8 fun _ _ h => h).trans k9 fun _ _ h => h⟩
    · have hw1 : (1 : Int) ≤ m.writes.length := by
        have : m.writes.length ≠ 0 := fun h => hw (List.eq_nil_of_length_eq_zero h)
        omega
      rw [someMay_some hw]
      clear hw
      generalize writesMay m.writes = wm at *
      cases et : txMay m.tx <;> rw [et] at HT <;> clear et
      · skip
        go_enter Tryz.func28, Tryz.ntmps28
        go_wp2
        refine wp_region_held_drew (S := fun w' => Blk w' w.heap.size 50 (recv m aw cw am cm) ∧ Kept No w w') (by kernel_rfl) (⟨B1, K1.drew⟩) (fun hHeld => ?_)
        refine wpAnyH_take (i := 0) (oi := _) (v := ?_) rfl (by kernel_rfl) (by kernel_rfl) (by kernel_rfl) (fun _ _ _ h => h) (Or.inl ⟨by rfl, ?_⟩) (by assumption) ?_
        rotate_left
        · intro wv hSw; refine ld_val 50 ?lx23 ?l123 Tryz.isAgg50 31 Tryz.sizeOf50 w.heap.size 0 ?l223 (recv m aw cw am cm) l31 (hSw.1.seg0); (case l123 => rfl); (case l223 => rfl)
        (try simp only [List.getElem_toArray, List.getElem_cons_zero, Act.put, List.setIfInBounds_toArray, List.set_cons_zero, List.set_cons_succ])
        refine wpAnyH_take (i := 2) (oi := _) (v := ?_) rfl (by kernel_rfl) (by kernel_rfl) (by kernel_rfl) (fun _ _ _ h => h) (Or.inl ⟨by rfl, ?_⟩) (by assumption) ?_
        rotate_left
        · intro wv hSw; refine ld_val 50 ?lx24 ?l124 Tryz.isAgg50 31 Tryz.sizeOf50 w.heap.size 0 ?l224 (recv m aw cw am cm) l31 (hSw.1.seg0); (case l124 => rfl); (case l224 => rfl)
        (try simp only [List.getElem_toArray, List.getElem_cons_zero, List.getElem_cons_succ, Act.put, List.setIfInBounds_toArray, List.set_cons_zero, List.set_cons_succ])
        refine wpAnyH_ready (rs := [1]) (by kernel_rfl) (by simp) ?_
        refine AllReadyH.cons (o := _) rfl (fun K hK => ?_) AllReadyH.nil
        go_simp
        go_at_call 65; refine (HK.out _).mono ?_; rintro _ w5 ⟨a5, c5, b5, d5, rfl, r5, t5, k5⟩
        (try go_wp2_with fail)
        refine hK.out _ _ (⟨hHeld.1.kept k5 (fun h => h), hHeld.2.trans k5 fun _ _ h => h⟩) (fun hHeld => ?_)
        clear hK K
        (try simp only [List.getElem_toArray, List.getElem_cons_zero, List.getElem_cons_succ, Act.put, List.setIfInBounds_toArray, List.set_cons_zero, List.set_cons_succ])
        refine wpAnyH_ready (rs := [3]) (by kernel_rfl) (by simp) ?_
        refine AllReadyH.cons (o := _) rfl (fun K hK => ?_) AllReadyH.nil
        go_simp
        go_at_call 30; refine (HSame.out _ _ _ _ _ r5 t5 hHeld.2).mono ?_; rintro _ w6 ⟨rfl, k6⟩
        (try go_wp2_with fail)
        refine hK.out _ _ (⟨hHeld.1.kept k6 (fun h => h), hHeld.2.trans k6 fun _ _ h => h⟩) (fun hHeld => ?_)
        clear hK K
        (try simp only [List.getElem_toArray, List.getElem_cons_zero, List.getElem_cons_succ, Act.put, List.setIfInBounds_toArray, List.set_cons_zero, List.set_cons_succ])
        refine wpAnyH_take (i := 4) (oi := _) (v := ?_) rfl (by kernel_rfl) (by kernel_rfl) (by kernel_rfl) (fun _ _ _ h => h) (Or.inl ⟨by rfl, ?_⟩) (by assumption) ?_
        rotate_left
        · intro wv hSw; (try dsimp only at hSw); go_simp; (try with_reducible rfl)
        (try simp only [List.getElem_toArray, List.getElem_cons_zero, List.getElem_cons_succ, Act.put, List.setIfInBounds_toArray, List.set_cons_zero, List.set_cons_succ])
        refine wpAnyH_done (by kernel_rfl) ?_ _

        have B6 : Rc w6 50 w.heap.size m aw cw am cm := HRc.out _ hHeld.1 hHeld.2
        have K6 := hHeld.2
        clear HSame HK B1 K1 hHeld HRc
        have c8 := B6.writes
        have c0 := B6.kind
        rw [hk] at c0
        go_wp2_with (first
          | (go_at_call 24; refine (HW.out _ K6).mono ?_; rintro _ w7 ⟨rfl, k7⟩; have B7 := B6.keptNo k7; have K7 := K6.trans k7 (fun _ _ h => h); have c07 := B7.kind; rw [hk] at c07; have t7 := B7.tx)
          | (with_reducible refine wpList_ld rfl 24 _ rfl Tryz.isAgg24 3 Tryz.sizeOf24 w.heap.size 2 rfl (txv m.tx) rfl t7 ?_)
          | (go_at_call 66; refine (HT.out _).mono ?_; rintro _ w8 ⟨rfl, k8⟩; have sr := (B7.keptNo k8).reg)
          | fail)
        go_ret
        exact ⟨by rfl, K7.trans k8 fun _ _ h => h⟩
      · skip
        go_enter Tryz.func28, Tryz.ntmps28
        go_wp2
        refine wp_region_held_drew (S := fun w' => Blk w' w.heap.size 50 (recv m aw cw am cm) ∧ Kept No w w') (by kernel_rfl) (⟨B1, K1.drew⟩) (fun hHeld => ?_)
        refine wpAnyH_take (i := 0) (oi := _) (v := ?_) rfl (by kernel_rfl) (by kernel_rfl) (by kernel_rfl) (fun _ _ _ h => h) (Or.inl ⟨by rfl, ?_⟩) (by assumption) ?_
        rotate_left
        · intro wv hSw; refine ld_val 50 ?lx23 ?l123 Tryz.isAgg50 31 Tryz.sizeOf50 w.heap.size 0 ?l223 (recv m aw cw am cm) l31 (hSw.1.seg0); (case l123 => rfl); (case l223 => rfl)
        (try simp only [List.getElem_toArray, List.getElem_cons_zero, Act.put, List.setIfInBounds_toArray, List.set_cons_zero, List.set_cons_succ])
        refine wpAnyH_take (i := 2) (oi := _) (v := ?_) rfl (by kernel_rfl) (by kernel_rfl) (by kernel_rfl) (fun _ _ _ h => h) (Or.inl ⟨by rfl, ?_⟩) (by assumption) ?_
        rotate_left
        · intro wv hSw; refine ld_val 50 ?lx24 ?l124 Tryz.isAgg50 31 Tryz.sizeOf50 w.heap.size 0 ?l224 (recv m aw cw am cm) l31 (hSw.1.seg0); (case l124 => rfl); (case l224 => rfl)
        (try simp only [List.getElem_toArray, List.getElem_cons_zero, List.getElem_cons_succ, Act.put, List.setIfInBounds_toArray, List.set_cons_zero, List.set_cons_succ])
        refine wpAnyH_ready (rs := [1]) (by kernel_rfl) (by simp) ?_
        refine AllReadyH.cons (o := _) rfl (fun K hK => ?_) AllReadyH.nil
        go_simp
        go_at_call 65; refine (HK.out _).mono ?_; rintro _ w5 ⟨a5, c5, b5, d5, rfl, r5, t5, k5⟩
        (try go_wp2_with fail)
        refine hK.out _ _ (⟨hHeld.1.kept k5 (fun h => h), hHeld.2.trans k5 fun _ _ h => h⟩) (fun hHeld => ?_)
        clear hK K
        (try simp only [List.getElem_toArray, List.getElem_cons_zero, List.getElem_cons_succ, Act.put, List.setIfInBounds_toArray, List.set_cons_zero, List.set_cons_succ])
        refine wpAnyH_ready (rs := [3]) (by kernel_rfl) (by simp) ?_
        refine AllReadyH.cons (o := _) rfl (fun K hK => ?_) AllReadyH.nil
        go_simp
        go_at_call 30; refine (HSame.out _ _ _ _ _ r5 t5 hHeld.2).mono ?_; rintro _ w6 ⟨rfl, k6⟩
        (try go_wp2_with fail)
        refine hK.out _ _ (⟨hHeld.1.kept k6 (fun h => h), hHeld.2.trans k6 fun _ _ h => h⟩) (fun hHeld => ?_)
        clear hK K
        (try simp only [List.getElem_toArray, List.getElem_cons_zero, List.getElem_cons_succ, Act.put, List.setIfInBounds_toArray, List.set_cons_zero, List.set_cons_succ])
        refine wpAnyH_take (i := 4) (oi := _) (v := ?_) rfl (by kernel_rfl) (by kernel_rfl) (by kernel_rfl) (fun _ _ _ h => h) (Or.inl ⟨by rfl, ?_⟩) (by assumption) ?_
        rotate_left
        · intro wv hSw; (try dsimp only at hSw); go_simp; (try with_reducible rfl)
        (try simp only [List.getElem_toArray, List.getElem_cons_zero, List.getElem_cons_succ, Act.put, List.setIfInBounds_toArray, List.set_cons_zero, List.set_cons_succ])
        refine wpAnyH_done (by kernel_rfl) ?_ _

        have B6 : Rc w6 50 w.heap.size m aw cw am cm := HRc.out _ hHeld.1 hHeld.2
        have K6 := hHeld.2
        clear HSame HK B1 K1 hHeld HRc
        have c8 := B6.writes
        have c0 := B6.kind
        rw [hk] at c0
        go_wp2_with (first
          | (go_at_call 24; refine (HW.out _ K6).mono ?_; rintro _ w7 ⟨rfl, k7⟩; have B7 := B6.keptNo k7; have K7 := K6.trans k7 (fun _ _ h => h); have c07 := B7.kind; rw [hk] at c07; have t7 := B7.tx)
          | (with_reducible refine wpList_ld rfl 24 _ rfl Tryz.isAgg24 3 Tryz.sizeOf24 w.heap.size 2 rfl (txv m.tx) rfl t7 ?_)
          | (go_at_call 66; refine (HT.out _).mono ?_; rintro _ w8 ⟨rfl, k8⟩; have sr := (B7.keptNo k8).reg)
          | (with_reducible refine wpList_ld rfl 26 _ rfl Tryz.isAgg26 2 Tryz.sizeOf26 w.heap.size 5 rfl (regv m.reg) rfl sr ?_)
          | (go_at_call 67; refine (HRg.out _).mono ?_; rintro _ w9 ⟨rfl, k9⟩)
          | fail)
        go_ret
        exact ⟨by rfl, (K7.trans k8 fun _ _ h => h).trans k9 fun _ _ h => h⟩
  · skip
    by_cases hw : m.writes = []
    · have hw0 : m.writes.length = 0 := by rw [hw]; rfl
      rw [someMay_nil hw]
      clear hw
      cases et : txMay m.tx <;> rw [et] at HT <;> clear et
      · skip
        go_enter Tryz.func28, Tryz.ntmps28
        go_wp2
        refine wp_region_held_drew (S := fun w' => Blk w' w.heap.size 50 (recv m aw cw am cm) ∧ Kept No w w') (by kernel_rfl) (⟨B1, K1.drew⟩) (fun hHeld => ?_)
        refine wpAnyH_take (i := 0) (oi := _) (v := ?_) rfl (by kernel_rfl) (by kernel_rfl) (by kernel_rfl) (fun _ _ _ h => h) (Or.inl ⟨by rfl, ?_⟩) (by assumption) ?_
        rotate_left
        · intro wv hSw; refine ld_val 50 ?lx25 ?l125 Tryz.isAgg50 31 Tryz.sizeOf50 w.heap.size 0 ?l225 (recv m aw cw am cm) l31 (hSw.1.seg0); (case l125 => rfl); (case l225 => rfl)
        (try simp only [List.getElem_toArray, List.getElem_cons_zero, Act.put, List.setIfInBounds_toArray, List.set_cons_zero, List.set_cons_succ])
        refine wpAnyH_take (i := 2) (oi := _) (v := ?_) rfl (by kernel_rfl) (by kernel_rfl) (by kernel_rfl) (fun _ _ _ h => h) (Or.inl ⟨by rfl, ?_⟩) (by assumption) ?_
        rotate_left
        · intro wv hSw; refine ld_val 50 ?lx26 ?l126 Tryz.isAgg50 31 Tryz.sizeOf50 w.heap.size 0 ?l226 (recv m aw cw am cm) l31 (hSw.1.seg0); (case l126 => rfl); (case l226 => rfl)
        (try simp only [List.getElem_toArray, List.getElem_cons_zero, List.getElem_cons_succ, Act.put, List.setIfInBounds_toArray, List.set_cons_zero, List.set_cons_succ])
        refine wpAnyH_ready (rs := [1]) (by kernel_rfl) (by simp) ?_
        refine AllReadyH.cons (o := _) rfl (fun K hK => ?_) AllReadyH.nil
        go_simp
        go_at_call 65; refine (HK.out _).mono ?_; rintro _ w5 ⟨a5, c5, b5, d5, rfl, r5, t5, k5⟩
        (try go_wp2_with fail)
        refine hK.out _ _ (⟨hHeld.1.kept k5 (fun h => h), hHeld.2.trans k5 fun _ _ h => h⟩) (fun hHeld => ?_)
        clear hK K
        (try simp only [List.getElem_toArray, List.getElem_cons_zero, List.getElem_cons_succ, Act.put, List.setIfInBounds_toArray, List.set_cons_zero, List.set_cons_succ])
        refine wpAnyH_ready (rs := [3]) (by kernel_rfl) (by simp) ?_
        refine AllReadyH.cons (o := _) rfl (fun K hK => ?_) AllReadyH.nil
        go_simp
        go_at_call 30; refine (HSame.out _ _ _ _ _ r5 t5 hHeld.2).mono ?_; rintro _ w6 ⟨rfl, k6⟩
        (try go_wp2_with fail)
        refine hK.out _ _ (⟨hHeld.1.kept k6 (fun h => h), hHeld.2.trans k6 fun _ _ h => h⟩) (fun hHeld => ?_)
        clear hK K
        (try simp only [List.getElem_toArray, List.getElem_cons_zero, List.getElem_cons_succ, Act.put, List.setIfInBounds_toArray, List.set_cons_zero, List.set_cons_succ])
        refine wpAnyH_take (i := 4) (oi := _) (v := ?_) rfl (by kernel_rfl) (by kernel_rfl) (by kernel_rfl) (fun _ _ _ h => h) (Or.inl ⟨by rfl, ?_⟩) (by assumption) ?_
        rotate_left
        · intro wv hSw; (try dsimp only at hSw); go_simp; (try with_reducible rfl)
        (try simp only [List.getElem_toArray, List.getElem_cons_zero, List.getElem_cons_succ, Act.put, List.setIfInBounds_toArray, List.set_cons_zero, List.set_cons_succ])
        refine wpAnyH_done (by kernel_rfl) ?_ _

        have B6 : Rc w6 50 w.heap.size m aw cw am cm := HRc.out _ hHeld.1 hHeld.2
        have K6 := hHeld.2
        clear HSame HK B1 K1 hHeld HRc
        have c8 := B6.writes
        have c0 := B6.kind
        rw [hk] at c0
        have n0 := hw0
        rw [n0] at c8
        have st := B6.tx
        go_wp2_with (first
          | (with_reducible refine wpList_ld rfl 24 _ rfl Tryz.isAgg24 3 Tryz.sizeOf24 w.heap.size 2 rfl (txv m.tx) rfl st ?_)
          | (go_at_call 66; refine (HT.out _).mono ?_; rintro _ w8 ⟨rfl, k8⟩; have sr := (B6.keptNo k8).reg)
          | fail)
        go_ret
        exact ⟨by rfl, K6.trans k8 fun _ _ h => h⟩
      · skip
        go_enter Tryz.func28, Tryz.ntmps28
        go_wp2
        refine wp_region_held_drew (S := fun w' => Blk w' w.heap.size 50 (recv m aw cw am cm) ∧ Kept No w w') (by kernel_rfl) (⟨B1, K1.drew⟩) (fun hHeld => ?_)
        refine wpAnyH_take (i := 0) (oi := _) (v := ?_) rfl (by kernel_rfl) (by kernel_rfl) (by kernel_rfl) (fun _ _ _ h => h) (Or.inl ⟨by rfl, ?_⟩) (by assumption) ?_
        rotate_left
        · intro wv hSw; refine ld_val 50 ?lx25 ?l125 Tryz.isAgg50 31 Tryz.sizeOf50 w.heap.size 0 ?l225 (recv m aw cw am cm) l31 (hSw.1.seg0); (case l125 => rfl); (case l225 => rfl)
        (try simp only [List.getElem_toArray, List.getElem_cons_zero, Act.put, List.setIfInBounds_toArray, List.set_cons_zero, List.set_cons_succ])
        refine wpAnyH_take (i := 2) (oi := _) (v := ?_) rfl (by kernel_rfl) (by kernel_rfl) (by kernel_rfl) (fun _ _ _ h => h) (Or.inl ⟨by rfl, ?_⟩) (by assumption) ?_
        rotate_left
        · intro wv hSw; refine ld_val 50 ?lx26 ?l126 Tryz.isAgg50 31 Tryz.sizeOf50 w.heap.size 0 ?l226 (recv m aw cw am cm) l31 (hSw.1.seg0); (case l126 => rfl); (case l226 => rfl)
        (try simp only [List.getElem_toArray, List.getElem_cons_zero, List.getElem_cons_succ, Act.put, List.setIfInBounds_toArray, List.set_cons_zero, List.set_cons_succ])
        refine wpAnyH_ready (rs := [1]) (by kernel_rfl) (by simp) ?_
        refine AllReadyH.cons (o := _) rfl (fun K hK => ?_) AllReadyH.nil
        go_simp
        go_at_call 65; refine (HK.out _).mono ?_; rintro _ w5 ⟨a5, c5, b5, d5, rfl, r5, t5, k5⟩
        (try go_wp2_with fail)
        refine hK.out _ _ (⟨hHeld.1.kept k5 (fun h => h), hHeld.2.trans k5 fun _ _ h => h⟩) (fun hHeld => ?_)
        clear hK K
        (try simp only [List.getElem_toArray, List.getElem_cons_zero, List.getElem_cons_succ, Act.put, List.setIfInBounds_toArray, List.set_cons_zero, List.set_cons_succ])
        refine wpAnyH_ready (rs := [3]) (by kernel_rfl) (by simp) ?_
        refine AllReadyH.cons (o := _) rfl (fun K hK => ?_) AllReadyH.nil
        go_simp
        go_at_call 30; refine (HSame.out _ _ _ _ _ r5 t5 hHeld.2).mono ?_; rintro _ w6 ⟨rfl, k6⟩
        (try go_wp2_with fail)
        refine hK.out _ _ (⟨hHeld.1.kept k6 (fun h => h), hHeld.2.trans k6 fun _ _ h => h⟩) (fun hHeld => ?_)
        clear hK K
        (try simp only [List.getElem_toArray, List.getElem_cons_zero, List.getElem_cons_succ, Act.put, List.setIfInBounds_toArray, List.set_cons_zero, List.set_cons_succ])
        refine wpAnyH_take (i := 4) (oi := _) (v := ?_) rfl (by kernel_rfl) (by kernel_rfl) (by kernel_rfl) (fun _ _ _ h => h) (Or.inl ⟨by rfl, ?_⟩) (by assumption) ?_
        rotate_left
        · intro wv hSw; (try dsimp only at hSw); go_simp; (try with_reducible rfl)
        (try simp only [List.getElem_toArray, List.getElem_cons_zero, List.getElem_cons_succ, Act.put, List.setIfInBounds_toArray, List.set_cons_zero, List.set_cons_succ])
        refine wpAnyH_done (by kernel_rfl) ?_ _

        have B6 : Rc w6 50 w.heap.size m aw cw am cm := HRc.out _ hHeld.1 hHeld.2
        have K6 := hHeld.2
        clear HSame HK B1 K1 hHeld HRc
        have c8 := B6.writes
        have c0 := B6.kind
        rw [hk] at c0
        have n0 := hw0
        rw [n0] at c8
        have st := B6.tx
        go_wp2_with (first
          | (with_reducible refine wpList_ld rfl 24 _ rfl Tryz.isAgg24 3 Tryz.sizeOf24 w.heap.size 2 rfl (txv m.tx) rfl st ?_)
          | (go_at_call 66; refine (HT.out _).mono ?_; rintro _ w8 ⟨rfl, k8⟩; have sr := (B6.keptNo k8).reg)
          | (with_reducible refine wpList_ld rfl 26 _ rfl Tryz.isAgg26 2 Tryz.sizeOf26 w.heap.size 5 rfl (regv m.reg) rfl sr ?_)
          | (go_at_call 67; refine (HRg.out _).mono ?_; rintro _ w9 ⟨rfl, k9⟩)
          | fail)
        go_ret
        exact ⟨by rfl, (K6.trans k8 fun _ _ h => h).trans k9 fun _ _ h => h⟩
    · have hw1 : (1 : Int) ≤ m.writes.length := by
        have : m.writes.length ≠ 0 := fun h => hw (List.eq_nil_of_length_eq_zero h)
        omega
      rw [someMay_some hw]
      clear hw
      generalize writesMay m.writes = wm at *
      cases et : txMay m.tx <;> rw [et] at HT <;> clear et
      · skip
        go_enter Tryz.func28, Tryz.ntmps28
        go_wp2
        refine wp_region_held_drew (S := fun w' => Blk w' w.heap.size 50 (recv m aw cw am cm) ∧ Kept No w w') (by kernel_rfl) (⟨B1, K1.drew⟩) (fun hHeld => ?_)
        refine wpAnyH_take (i := 0) (oi := _) (v := ?_) rfl (by kernel_rfl) (by kernel_rfl) (by kernel_rfl) (fun _ _ _ h => h) (Or.inl ⟨by rfl, ?_⟩) (by assumption) ?_
        rotate_left
        · intro wv hSw; refine ld_val 50 ?lx27 ?l127 Tryz.isAgg50 31 Tryz.sizeOf50 w.heap.size 0 ?l227 (recv m aw cw am cm) l31 (hSw.1.seg0); (case l127 => rfl); (case l227 => rfl)
        (try simp only [List.getElem_toArray, List.getElem_cons_zero, Act.put, List.setIfInBounds_toArray, List.set_cons_zero, List.set_cons_succ])
        refine wpAnyH_take (i := 2) (oi := _) (v := ?_) rfl (by kernel_rfl) (by kernel_rfl) (by kernel_rfl) (fun _ _ _ h => h) (Or.inl ⟨by rfl, ?_⟩) (by assumption) ?_
        rotate_left
        · intro wv hSw; refine ld_val 50 ?lx28 ?l128 Tryz.isAgg50 31 Tryz.sizeOf50 w.heap.size 0 ?l228 (recv m aw cw am cm) l31 (hSw.1.seg0); (case l128 => rfl); (case l228 => rfl)
        (try simp only [List.getElem_toArray, List.getElem_cons_zero, List.getElem_cons_succ, Act.put, List.setIfInBounds_toArray, List.set_cons_zero, List.set_cons_succ])
        refine wpAnyH_ready (rs := [1]) (by kernel_rfl) (by simp) ?_
        refine AllReadyH.cons (o := _) rfl (fun K hK => ?_) AllReadyH.nil
        go_simp
        go_at_call 65; refine (HK.out _).mono ?_; rintro _ w5 ⟨a5, c5, b5, d5, rfl, r5, t5, k5⟩
        (try go_wp2_with fail)
        refine hK.out _ _ (⟨hHeld.1.kept k5 (fun h => h), hHeld.2.trans k5 fun _ _ h => h⟩) (fun hHeld => ?_)
        clear hK K
        (try simp only [List.getElem_toArray, List.getElem_cons_zero, List.getElem_cons_succ, Act.put, List.setIfInBounds_toArray, List.set_cons_zero, List.set_cons_succ])
        refine wpAnyH_ready (rs := [3]) (by kernel_rfl) (by simp) ?_
        refine AllReadyH.cons (o := _) rfl (fun K hK => ?_) AllReadyH.nil
        go_simp
        go_at_call 30; refine (HSame.out _ _ _ _ _ r5 t5 hHeld.2).mono ?_; rintro _ w6 ⟨rfl, k6⟩
        (try go_wp2_with fail)
        refine hK.out _ _ (⟨hHeld.1.kept k6 (fun h => h), hHeld.2.trans k6 fun _ _ h => h⟩) (fun hHeld => ?_)
        clear hK K
        (try simp only [List.getElem_toArray, List.getElem_cons_zero, List.getElem_cons_succ, Act.put, List.setIfInBounds_toArray, List.set_cons_zero, List.set_cons_succ])
        refine wpAnyH_take (i := 4) (oi := _) (v := ?_) rfl (by kernel_rfl) (by kernel_rfl) (by kernel_rfl) (fun _ _ _ h => h) (Or.inl ⟨by rfl, ?_⟩) (by assumption) ?_
        rotate_left
        · intro wv hSw; (try dsimp only at hSw); go_simp; (try with_reducible rfl)
        (try simp only [List.getElem_toArray, List.getElem_cons_zero, List.getElem_cons_succ, Act.put, List.setIfInBounds_toArray, List.set_cons_zero, List.set_cons_succ])
        refine wpAnyH_done (by kernel_rfl) ?_ _

        have B6 : Rc w6 50 w.heap.size m aw cw am cm := HRc.out _ hHeld.1 hHeld.2
        have K6 := hHeld.2
        clear HSame HK B1 K1 hHeld HRc
        have c8 := B6.writes
        have c0 := B6.kind
        rw [hk] at c0
        go_wp2_with (first
          | (go_at_call 24; refine (HW.out _ K6).mono ?_; rintro _ w7 ⟨rfl, k7⟩; have B7 := B6.keptNo k7; have K7 := K6.trans k7 (fun _ _ h => h); have c07 := B7.kind; rw [hk] at c07; have t7 := B7.tx)
          | (with_reducible refine wpList_ld rfl 24 _ rfl Tryz.isAgg24 3 Tryz.sizeOf24 w.heap.size 2 rfl (txv m.tx) rfl t7 ?_)
          | (go_at_call 66; refine (HT.out _).mono ?_; rintro _ w8 ⟨rfl, k8⟩; have sr := (B7.keptNo k8).reg)
          | fail)
        go_ret
        exact ⟨by rfl, K7.trans k8 fun _ _ h => h⟩
      · skip
        go_enter Tryz.func28, Tryz.ntmps28
        go_wp2
        refine wp_region_held_drew (S := fun w' => Blk w' w.heap.size 50 (recv m aw cw am cm) ∧ Kept No w w') (by kernel_rfl) (⟨B1, K1.drew⟩) (fun hHeld => ?_)
        refine wpAnyH_take (i := 0) (oi := _) (v := ?_) rfl (by kernel_rfl) (by kernel_rfl) (by kernel_rfl) (fun _ _ _ h => h) (Or.inl ⟨by rfl, ?_⟩) (by assumption) ?_
        rotate_left
        · intro wv hSw; refine ld_val 50 ?lx27 ?l127 Tryz.isAgg50 31 Tryz.sizeOf50 w.heap.size 0 ?l227 (recv m aw cw am cm) l31 (hSw.1.seg0); (case l127 => rfl); (case l227 => rfl)
        (try simp only [List.getElem_toArray, List.getElem_cons_zero, Act.put, List.setIfInBounds_toArray, List.set_cons_zero, List.set_cons_succ])
        refine wpAnyH_take (i := 2) (oi := _) (v := ?_) rfl (by kernel_rfl) (by kernel_rfl) (by kernel_rfl) (fun _ _ _ h => h) (Or.inl ⟨by rfl, ?_⟩) (by assumption) ?_
        rotate_left
        · intro wv hSw; refine ld_val 50 ?lx28 ?l128 Tryz.isAgg50 31 Tryz.sizeOf50 w.heap.size 0 ?l228 (recv m aw cw am cm) l31 (hSw.1.seg0); (case l128 => rfl); (case l228 => rfl)
        (try simp only [List.getElem_toArray, List.getElem_cons_zero, List.getElem_cons_succ, Act.put, List.setIfInBounds_toArray, List.set_cons_zero, List.set_cons_succ])
        refine wpAnyH_ready (rs := [1]) (by kernel_rfl) (by simp) ?_
        refine AllReadyH.cons (o := _) rfl (fun K hK => ?_) AllReadyH.nil
        go_simp
        go_at_call 65; refine (HK.out _).mono ?_; rintro _ w5 ⟨a5, c5, b5, d5, rfl, r5, t5, k5⟩
        (try go_wp2_with fail)
        refine hK.out _ _ (⟨hHeld.1.kept k5 (fun h => h), hHeld.2.trans k5 fun _ _ h => h⟩) (fun hHeld => ?_)
        clear hK K
        (try simp only [List.getElem_toArray, List.getElem_cons_zero, List.getElem_cons_succ, Act.put, List.setIfInBounds_toArray, List.set_cons_zero, List.set_cons_succ])
        refine wpAnyH_ready (rs := [3]) (by kernel_rfl) (by simp) ?_
        refine AllReadyH.cons (o := _) rfl (fun K hK => ?_) AllReadyH.nil
        go_simp
        go_at_call 30; refine (HSame.out _ _ _ _ _ r5 t5 hHeld.2).mono ?_; rintro _ w6 ⟨rfl, k6⟩
        (try go_wp2_with fail)
        refine hK.out _ _ (⟨hHeld.1.kept k6 (fun h => h), hHeld.2.trans k6 fun _ _ h => h⟩) (fun hHeld => ?_)
        clear hK K
        (try simp only [List.getElem_toArray, List.getElem_cons_zero, List.getElem_cons_succ, Act.put, List.setIfInBounds_toArray, List.set_cons_zero, List.set_cons_succ])
        refine wpAnyH_take (i := 4) (oi := _) (v := ?_) rfl (by kernel_rfl) (by kernel_rfl) (by kernel_rfl) (fun _ _ _ h => h) (Or.inl ⟨by rfl, ?_⟩) (by assumption) ?_
        rotate_left
        · intro wv hSw; (try dsimp only at hSw); go_simp; (try with_reducible rfl)
        (try simp only [List.getElem_toArray, List.getElem_cons_zero, List.getElem_cons_succ, Act.put, List.setIfInBounds_toArray, List.set_cons_zero, List.set_cons_succ])
        refine wpAnyH_done (by kernel_rfl) ?_ _

        have B6 : Rc w6 50 w.heap.size m aw cw am cm := HRc.out _ hHeld.1 hHeld.2
        have K6 := hHeld.2
        clear HSame HK B1 K1 hHeld HRc
        have c8 := B6.writes
        have c0 := B6.kind
        rw [hk] at c0
        go_wp2_with (first
          | (go_at_call 24; refine (HW.out _ K6).mono ?_; rintro _ w7 ⟨rfl, k7⟩; have B7 := B6.keptNo k7; have K7 := K6.trans k7 (fun _ _ h => h); have c07 := B7.kind; rw [hk] at c07; have t7 := B7.tx)
          | (with_reducible refine wpList_ld rfl 24 _ rfl Tryz.isAgg24 3 Tryz.sizeOf24 w.heap.size 2 rfl (txv m.tx) rfl t7 ?_)
          | (go_at_call 66; refine (HT.out _).mono ?_; rintro _ w8 ⟨rfl, k8⟩; have sr := (B7.keptNo k8).reg)
          | (with_reducible refine wpList_ld rfl 26 _ rfl Tryz.isAgg26 2 Tryz.sizeOf26 w.heap.size 5 rfl (regv m.reg) rfl sr ?_)
          | (go_at_call 67; refine (HRg.out _).mono ?_; rintro _ w9 ⟨rfl, k9⟩)
          | fail)
        go_ret
        exact ⟨by rfl, (K7.trans k8 fun _ _ h => h).trans k9 fun _ _ h => h⟩
def RmRel (w0 : World) (T : TypeId) (g : Nat) (m : PRec) (aw : Option Addr) (cw : Nat) (am : Option Addr) (cm : Nat) (i : Value) (wr : World) : Prop :=
  ∃ k : Nat, k ≤ m.missing.length ∧ i = .int .i64 k ∧ (∀ x ∈ m.missing.take k, isSet x = true) ∧ Rc wr T g m aw cw am cm ∧ Kept No w0 wr
set_option maxRecDepth 100000 in
set_option maxHeartbeats 2000000 in
theorem refRMay_5 (m : PRec) (hm : m.Wf) (hs : m.Sm) (hk : m.kind = 5) (hS : sameR (keptR m) m = true) (aw : Option Addr) (cw : Nat) (am : Option Addr) (cm : Nat) (hrw : Rd w aw (pwsv m.writes)) (hrm : Rd w am (ucells m.missing)) (haw : ∀ b, At aw b → b < w.heap.size) (ham : ∀ b, At am b → b < w.heap.size) :
    Calls Tryz.prog 28 #[.agg (recv m aw cw am cm).toArray] w fun e w' => e = .returned (.bool (rMay m)) ∧ Kept No w w' := by
  have B1 := Blk.new w 50 (recv m aw cw am cm)
  have K1 := (Kept.refl No w).alloc (.cells (recv m aw cw am cm).toArray 50)
  have l31 := recv_length hm aw cw am cm
  have HK := Lib.hid (fun w => refKeptR_calls (w := w) m hm aw cw am cm)
  have HSame := Lib.hid (fun (wq : World) (a5 : Option Addr) (c5 : Nat) (b5 : Option Addr) (d5 : Nat) (r5 : ∀ wq, Rd wq aw (pwsv m.writes) → Rd wq a5 (pwsv (keptR m).writes)) (t5 : ∀ wq, Rd wq am (ucells m.missing) → Rd wq b5 (ucells (keptR m).missing)) (k : Kept No w wq) => refRSame_calls (w := wq) (keptR m) m a5 b5 aw am c5 d5 cw cm (keptR_wf hm) hm (keptR_sm hs) hs (r5 _ (hrw.keptNo k)) (t5 _ (hrm.keptNo k)) (hrw.keptNo k) (hrm.keptNo k))
  have HRc := Lib.hid (show ∀ wq : World, Blk wq w.heap.size 50 (recv m aw cw am cm) → Kept No w wq → Rc wq 50 w.heap.size m aw cw am cm from fun wq h k => ⟨h, hrw.keptNo k, hrm.keptNo k, fun b hb => k.lt (haw b hb), fun b hb => k.lt (ham b hb), hm, hs⟩)
  have HW := Lib.hid (fun (wq : World) (k : Kept No w wq) => refWritesMay_calls (w := wq) m.writes m.writes.length rfl aw cw hm.writes hs.each (hrw.keptNo k) hs.many)
  have HT := Lib.hid (fun wq => refTxMay_calls (w := wq) m.tx hm.tx)
  have hR := sameR_all hS
  have hB := keptR_may hR
  rw [hS] at HSame
  rw [hB]
  clear hB hS
  have hb : rBody m = (m.missing.all isSet && (txMay m.tx && isSet m.members && someMay m && decide (m.missing.length = m.writes.length))) := by unfold rBody; rw [if_neg (by omega), if_neg (by omega), if_neg (by omega), if_pos hk]
  rw [hb]
  have hml := hs.miss
  obtain ⟨G, hG⟩ : ∃ G, (m.missing.all isSet && (txMay m.tx && isSet m.members && someMay m && decide (m.missing.length = m.writes.length))) = G := ⟨_, rfl⟩
  rw [hG]
  clear hb hR
  by_cases hw : m.writes = []
  · have hw0 : m.writes.length = 0 := by rw [hw]; rfl
    rw [someMay_nil hw] at hG
    clear hw
    have HG := Lib.hid hG
    clear hG
    go_enter Tryz.func28, Tryz.ntmps28
    go_wp2
    refine wp_region_held_drew (S := fun w' => Blk w' w.heap.size 50 (recv m aw cw am cm) ∧ Kept No w w') (by kernel_rfl) (⟨B1, K1.drew⟩) (fun hHeld => ?_)
    refine wpAnyH_take (i := 0) (oi := _) (v := ?_) rfl (by kernel_rfl) (by kernel_rfl) (by kernel_rfl) (fun _ _ _ h => h) (Or.inl ⟨by rfl, ?_⟩) (by assumption) ?_
    rotate_left
    · intro wv hSw; refine ld_val 50 ?lx29 ?l129 Tryz.isAgg50 31 Tryz.sizeOf50 w.heap.size 0 ?l229 (recv m aw cw am cm) l31 (hSw.1.seg0); (case l129 => rfl); (case l229 => rfl)
    (try simp only [List.getElem_toArray, List.getElem_cons_zero, Act.put, List.setIfInBounds_toArray, List.set_cons_zero, List.set_cons_succ])
    refine wpAnyH_take (i := 2) (oi := _) (v := ?_) rfl (by kernel_rfl) (by kernel_rfl) (by kernel_rfl) (fun _ _ _ h => h) (Or.inl ⟨by rfl, ?_⟩) (by assumption) ?_
    rotate_left
    · intro wv hSw; refine ld_val 50 ?lx30 ?l130 Tryz.isAgg50 31 Tryz.sizeOf50 w.heap.size 0 ?l230 (recv m aw cw am cm) l31 (hSw.1.seg0); (case l130 => rfl); (case l230 => rfl)
    (try simp only [List.getElem_toArray, List.getElem_cons_zero, List.getElem_cons_succ, Act.put, List.setIfInBounds_toArray, List.set_cons_zero, List.set_cons_succ])
    refine wpAnyH_ready (rs := [1]) (by kernel_rfl) (by simp) ?_
    refine AllReadyH.cons (o := _) rfl (fun K hK => ?_) AllReadyH.nil
    go_simp
    go_at_call 65; refine (HK.out _).mono ?_; rintro _ w5 ⟨a5, c5, b5, d5, rfl, r5, t5, k5⟩
    (try go_wp2_with fail)
    refine hK.out _ _ (⟨hHeld.1.kept k5 (fun h => h), hHeld.2.trans k5 fun _ _ h => h⟩) (fun hHeld => ?_)
    clear hK K
    (try simp only [List.getElem_toArray, List.getElem_cons_zero, List.getElem_cons_succ, Act.put, List.setIfInBounds_toArray, List.set_cons_zero, List.set_cons_succ])
    refine wpAnyH_ready (rs := [3]) (by kernel_rfl) (by simp) ?_
    refine AllReadyH.cons (o := _) rfl (fun K hK => ?_) AllReadyH.nil
    go_simp
    go_at_call 30; refine (HSame.out _ _ _ _ _ r5 t5 hHeld.2).mono ?_; rintro _ w6 ⟨rfl, k6⟩
    (try go_wp2_with fail)
    refine hK.out _ _ (⟨hHeld.1.kept k6 (fun h => h), hHeld.2.trans k6 fun _ _ h => h⟩) (fun hHeld => ?_)
    clear hK K
    (try simp only [List.getElem_toArray, List.getElem_cons_zero, List.getElem_cons_succ, Act.put, List.setIfInBounds_toArray, List.set_cons_zero, List.set_cons_succ])
    refine wpAnyH_take (i := 4) (oi := _) (v := ?_) rfl (by kernel_rfl) (by kernel_rfl) (by kernel_rfl) (fun _ _ _ h => h) (Or.inl ⟨by rfl, ?_⟩) (by assumption) ?_
    rotate_left
    · intro wv hSw; (try dsimp only at hSw); go_simp; (try with_reducible rfl)
    (try simp only [List.getElem_toArray, List.getElem_cons_zero, List.getElem_cons_succ, Act.put, List.setIfInBounds_toArray, List.set_cons_zero, List.set_cons_succ])
    refine wpAnyH_done (by kernel_rfl) ?_ _

    have B6 : Rc w6 50 w.heap.size m aw cw am cm := HRc.out _ hHeld.1 hHeld.2
    have K6 := hHeld.2
    clear HSame HK B1 K1 hHeld HRc
    have c8 := B6.writes
    have c0 := B6.kind
    rw [hk] at c0
    have n0 := hw0
    rw [n0] at c8
    go_wp2
    clear c0 c8
    go_loopw [4] (fun i wr => RmRel w 50 w.heap.size m aw cw am cm i wr) (fun i _ => m.missing.length - (intOf i).toNat)
    case atStart => exact ⟨0, Nat.zero_le _, rfl, fun x hx => by simp at hx, B6, K6⟩
    case round =>
      clear B6 K6
      obtain ⟨k, hkl, rfl, hall, hM, hkk⟩ := hrel
      have c9 := hM.missing
      have HM2 := Lib.hid hM
      by_cases hlt : k < m.missing.length
      · have i0 : (0 : Int) ≤ k := by omega
        have i1 : (k : Int) < m.missing.length := by omega
        obtain ⟨x, hx⟩ : ∃ x, m.missing[k] = x := ⟨_, rfl⟩
        have hux : (ucells m.missing)[k]? = some (.int .u64 x) := by simp [ucells, hlt, hx]
        obtain ⟨bm, om, eam, cx⟩ := hM.rdm k _ hux
        have hmem : x ∈ m.missing := hx ▸ List.getElem_mem hlt
        have xlt := hm.missing x hmem
        subst eam
        have HALL := Lib.hid hall
        clear hall hM
        by_cases hset : x ≤ 255
        · have i2 := decide_eq_false (show ¬ (255 : Int) < x by omega)
          have hn : ∀ y ∈ m.missing.take (k + 1), isSet y = true := fun y hy => by
            rw [List.take_succ_eq_append_getElem hlt, List.mem_append, List.mem_singleton] at hy
            rcases hy with hy | hy
            · exact HALL.out y hy
            · rw [hy, hx]; exact decide_eq_true hset
          have HN := Lib.hid hn
          clear hn hset hx hux hmem
          go_wp2
          exact ⟨⟨k + 1, hlt, by go_num, HN.out, HM2.out, hkk⟩, by simp [intOf]; omega⟩
        · have i2 : (255 : Int) < x := by omega
          have hf : m.missing.all isSet = false := by
            rw [← Bool.not_eq_true, List.all_eq_true]; intro h
            have := of_decide_eq_true (h x hmem); omega
          have HF := Lib.hid hf
          clear hf hset hx hux hmem
          go_wp2
          go_ret
          exact ⟨by rw [← HG.out, HF.out]; rfl, hkk⟩
      · have i1 : (m.missing.length : Int) ≤ k := by omega
        have hall2 : m.missing.all isSet = true := by
          rw [List.all_eq_true]; intro x hx; exact hall x (by rw [List.take_of_length_le (by omega)]; exact hx)
        have HG2 := HG.out
        rw [hall2, Bool.true_and] at HG2
        clear hall hall2 hlt HG
        have st := hM.tx
        have cmb := hM.members
        have hmm := hm.members
        have c8 := hM.writes
        generalize eml : m.missing.length = ml at *
        generalize ewl : m.writes.length = wl at *
        have HEM := Lib.hid eml
        have HEW := Lib.hid ewl
        clear eml ewl
        have hdd : decide (ml = wl) = ((ml : Int) == (wl : Int)) := by rw [Bool.eq_iff_iff]; simp; omega
        rw [hdd] at HG2
        generalize hzz : ((ml : Int) == (wl : Int)) = zz at *
        have hsd : isSet m.members = decide ((m.members : Int) ≤ 255) := by unfold isSet; rw [Bool.eq_iff_iff]; simp; omega
        rw [hsd] at HG2
        generalize hz2 : decide ((m.members : Int) ≤ 255) = z2 at *
        clear hdd hsd
        have HG3 := Lib.hid HG2
        clear HG2
        cases et : txMay m.tx <;> rw [et] at HT HG3 <;> clear et
        · go_wp2_with (first
            | (with_reducible refine wpList_ld rfl 24 _ rfl Tryz.isAgg24 3 Tryz.sizeOf24 w.heap.size 2 rfl (txv m.tx) rfl st ?_)
            | (go_at_call 66; refine (HT.out _).mono ?_; rintro _ w8 ⟨rfl, k8⟩))
          go_ret
          exact ⟨by rw [← HG3.out]; rfl, hkk.trans k8 fun _ _ h => h⟩
        · cases z2
          · have i5 : ¬ (m.members : Int) ≤ 255 := of_decide_eq_false hz2
            go_wp2_with (first
              | (with_reducible refine wpList_ld rfl 24 _ rfl Tryz.isAgg24 3 Tryz.sizeOf24 w.heap.size 2 rfl (txv m.tx) rfl st ?_)
              | (go_at_call 66; refine (HT.out _).mono ?_; rintro _ w8 ⟨rfl, k8⟩; have cmb8 := (HM2.out.keptNo k8).members))
            go_ret
            exact ⟨by rw [← HG3.out]; rfl, hkk.trans k8 fun _ _ h => h⟩
          · have i5 : (m.members : Int) ≤ 255 := of_decide_eq_true hz2
            go_wp2_with (first
              | (with_reducible refine wpList_ld rfl 24 _ rfl Tryz.isAgg24 3 Tryz.sizeOf24 w.heap.size 2 rfl (txv m.tx) rfl st ?_)
              | (go_at_call 66; refine (HT.out _).mono ?_; rintro _ w8 ⟨rfl, k8⟩; have B8 := HM2.out.keptNo k8; have cmb8 := B8.members; have c88 := B8.writes; have c98 := B8.missing; rw [HEW.out] at c88; rw [HEM.out] at c98))
            go_ret
            exact ⟨by rw [← HG3.out]; cases zz <;> rfl, hkk.trans k8 fun _ _ h => h⟩
  · have hw1 : (1 : Int) ≤ m.writes.length := by
      have : m.writes.length ≠ 0 := fun h => hw (List.eq_nil_of_length_eq_zero h)
      omega
    rw [someMay_some hw] at hG
    clear hw
    generalize writesMay m.writes = wm at *
    have HG := Lib.hid hG
    clear hG
    go_enter Tryz.func28, Tryz.ntmps28
    go_wp2
    refine wp_region_held_drew (S := fun w' => Blk w' w.heap.size 50 (recv m aw cw am cm) ∧ Kept No w w') (by kernel_rfl) (⟨B1, K1.drew⟩) (fun hHeld => ?_)
    refine wpAnyH_take (i := 0) (oi := _) (v := ?_) rfl (by kernel_rfl) (by kernel_rfl) (by kernel_rfl) (fun _ _ _ h => h) (Or.inl ⟨by rfl, ?_⟩) (by assumption) ?_
    rotate_left
    · intro wv hSw; refine ld_val 50 ?lx31 ?l131 Tryz.isAgg50 31 Tryz.sizeOf50 w.heap.size 0 ?l231 (recv m aw cw am cm) l31 (hSw.1.seg0); (case l131 => rfl); (case l231 => rfl)
    (try simp only [List.getElem_toArray, List.getElem_cons_zero, Act.put, List.setIfInBounds_toArray, List.set_cons_zero, List.set_cons_succ])
    refine wpAnyH_take (i := 2) (oi := _) (v := ?_) rfl (by kernel_rfl) (by kernel_rfl) (by kernel_rfl) (fun _ _ _ h => h) (Or.inl ⟨by rfl, ?_⟩) (by assumption) ?_
    rotate_left
    · intro wv hSw; refine ld_val 50 ?lx32 ?l132 Tryz.isAgg50 31 Tryz.sizeOf50 w.heap.size 0 ?l232 (recv m aw cw am cm) l31 (hSw.1.seg0); (case l132 => rfl); (case l232 => rfl)
    (try simp only [List.getElem_toArray, List.getElem_cons_zero, List.getElem_cons_succ, Act.put, List.setIfInBounds_toArray, List.set_cons_zero, List.set_cons_succ])
    refine wpAnyH_ready (rs := [1]) (by kernel_rfl) (by simp) ?_
    refine AllReadyH.cons (o := _) rfl (fun K hK => ?_) AllReadyH.nil
    go_simp
    go_at_call 65; refine (HK.out _).mono ?_; rintro _ w5 ⟨a5, c5, b5, d5, rfl, r5, t5, k5⟩
    (try go_wp2_with fail)
    refine hK.out _ _ (⟨hHeld.1.kept k5 (fun h => h), hHeld.2.trans k5 fun _ _ h => h⟩) (fun hHeld => ?_)
    clear hK K
    (try simp only [List.getElem_toArray, List.getElem_cons_zero, List.getElem_cons_succ, Act.put, List.setIfInBounds_toArray, List.set_cons_zero, List.set_cons_succ])
    refine wpAnyH_ready (rs := [3]) (by kernel_rfl) (by simp) ?_
    refine AllReadyH.cons (o := _) rfl (fun K hK => ?_) AllReadyH.nil
    go_simp
    go_at_call 30; refine (HSame.out _ _ _ _ _ r5 t5 hHeld.2).mono ?_; rintro _ w6 ⟨rfl, k6⟩
    (try go_wp2_with fail)
    refine hK.out _ _ (⟨hHeld.1.kept k6 (fun h => h), hHeld.2.trans k6 fun _ _ h => h⟩) (fun hHeld => ?_)
    clear hK K
    (try simp only [List.getElem_toArray, List.getElem_cons_zero, List.getElem_cons_succ, Act.put, List.setIfInBounds_toArray, List.set_cons_zero, List.set_cons_succ])
    refine wpAnyH_take (i := 4) (oi := _) (v := ?_) rfl (by kernel_rfl) (by kernel_rfl) (by kernel_rfl) (fun _ _ _ h => h) (Or.inl ⟨by rfl, ?_⟩) (by assumption) ?_
    rotate_left
    · intro wv hSw; (try dsimp only at hSw); go_simp; (try with_reducible rfl)
    (try simp only [List.getElem_toArray, List.getElem_cons_zero, List.getElem_cons_succ, Act.put, List.setIfInBounds_toArray, List.set_cons_zero, List.set_cons_succ])
    refine wpAnyH_done (by kernel_rfl) ?_ _

    have B6 : Rc w6 50 w.heap.size m aw cw am cm := HRc.out _ hHeld.1 hHeld.2
    have K6 := hHeld.2
    clear HSame HK B1 K1 hHeld HRc
    have c8 := B6.writes
    have c0 := B6.kind
    rw [hk] at c0
    go_wp2_with (go_at_call 24; refine (HW.out _ K6).mono ?_; rintro _ w7 ⟨rfl, k7⟩; have B7 := B6.keptNo k7; have K7 := K6.trans k7 (fun _ _ h => h); have c07 := B7.kind; rw [hk] at c07; have t7 := B7.tx)
    clear c0 c8 B6 K6 k7 t7 HW
    go_loopw [4] (fun i wr => RmRel w 50 w.heap.size m aw cw am cm i wr) (fun i _ => m.missing.length - (intOf i).toNat)
    case atStart => exact ⟨0, Nat.zero_le _, rfl, fun x hx => by simp at hx, B7, K7⟩
    case round =>
      clear B7 K7
      obtain ⟨k, hkl, rfl, hall, hM, hkk⟩ := hrel
      have c9 := hM.missing
      have HM2 := Lib.hid hM
      by_cases hlt : k < m.missing.length
      · have i0 : (0 : Int) ≤ k := by omega
        have i1 : (k : Int) < m.missing.length := by omega
        obtain ⟨x, hx⟩ : ∃ x, m.missing[k] = x := ⟨_, rfl⟩
        have hux : (ucells m.missing)[k]? = some (.int .u64 x) := by simp [ucells, hlt, hx]
        obtain ⟨bm, om, eam, cx⟩ := hM.rdm k _ hux
        have hmem : x ∈ m.missing := hx ▸ List.getElem_mem hlt
        have xlt := hm.missing x hmem
        subst eam
        have HALL := Lib.hid hall
        clear hall hM
        by_cases hset : x ≤ 255
        · have i2 := decide_eq_false (show ¬ (255 : Int) < x by omega)
          have hn : ∀ y ∈ m.missing.take (k + 1), isSet y = true := fun y hy => by
            rw [List.take_succ_eq_append_getElem hlt, List.mem_append, List.mem_singleton] at hy
            rcases hy with hy | hy
            · exact HALL.out y hy
            · rw [hy, hx]; exact decide_eq_true hset
          have HN := Lib.hid hn
          clear hn hset hx hux hmem
          go_wp2
          exact ⟨⟨k + 1, hlt, by go_num, HN.out, HM2.out, hkk⟩, by simp [intOf]; omega⟩
        · have i2 : (255 : Int) < x := by omega
          have hf : m.missing.all isSet = false := by
            rw [← Bool.not_eq_true, List.all_eq_true]; intro h
            have := of_decide_eq_true (h x hmem); omega
          have HF := Lib.hid hf
          clear hf hset hx hux hmem
          go_wp2
          go_ret
          exact ⟨by rw [← HG.out, HF.out]; rfl, hkk⟩
      · have i1 : (m.missing.length : Int) ≤ k := by omega
        have hall2 : m.missing.all isSet = true := by
          rw [List.all_eq_true]; intro x hx; exact hall x (by rw [List.take_of_length_le (by omega)]; exact hx)
        have HG2 := HG.out
        rw [hall2, Bool.true_and] at HG2
        clear hall hall2 hlt HG
        have st := hM.tx
        have cmb := hM.members
        have hmm := hm.members
        have c8 := hM.writes
        generalize eml : m.missing.length = ml at *
        generalize ewl : m.writes.length = wl at *
        have HEM := Lib.hid eml
        have HEW := Lib.hid ewl
        clear eml ewl
        have hdd : decide (ml = wl) = ((ml : Int) == (wl : Int)) := by rw [Bool.eq_iff_iff]; simp; omega
        rw [hdd] at HG2
        generalize hzz : ((ml : Int) == (wl : Int)) = zz at *
        have hsd : isSet m.members = decide ((m.members : Int) ≤ 255) := by unfold isSet; rw [Bool.eq_iff_iff]; simp; omega
        rw [hsd] at HG2
        generalize hz2 : decide ((m.members : Int) ≤ 255) = z2 at *
        clear hdd hsd
        have HG3 := Lib.hid HG2
        clear HG2
        cases et : txMay m.tx <;> rw [et] at HT HG3 <;> clear et
        · go_wp2_with (first
            | (with_reducible refine wpList_ld rfl 24 _ rfl Tryz.isAgg24 3 Tryz.sizeOf24 w.heap.size 2 rfl (txv m.tx) rfl st ?_)
            | (go_at_call 66; refine (HT.out _).mono ?_; rintro _ w8 ⟨rfl, k8⟩))
          go_ret
          exact ⟨by rw [← HG3.out]; rfl, hkk.trans k8 fun _ _ h => h⟩
        · cases z2
          · have i5 : ¬ (m.members : Int) ≤ 255 := of_decide_eq_false hz2
            go_wp2_with (first
              | (with_reducible refine wpList_ld rfl 24 _ rfl Tryz.isAgg24 3 Tryz.sizeOf24 w.heap.size 2 rfl (txv m.tx) rfl st ?_)
              | (go_at_call 66; refine (HT.out _).mono ?_; rintro _ w8 ⟨rfl, k8⟩; have cmb8 := (HM2.out.keptNo k8).members))
            go_ret
            exact ⟨by rw [← HG3.out]; rfl, hkk.trans k8 fun _ _ h => h⟩
          · have i5 : (m.members : Int) ≤ 255 := of_decide_eq_true hz2
            cases wm
            · skip
              go_wp2_with (first
                | (with_reducible refine wpList_ld rfl 24 _ rfl Tryz.isAgg24 3 Tryz.sizeOf24 w.heap.size 2 rfl (txv m.tx) rfl st ?_)
                | (go_at_call 66; refine (HT.out _).mono ?_; rintro _ w8 ⟨rfl, k8⟩; have B8 := HM2.out.keptNo k8; have cmb8 := B8.members; have c88 := B8.writes; have c98 := B8.missing; rw [HEW.out] at c88; rw [HEM.out] at c98))
              go_ret
              exact ⟨by rw [← HG3.out]; cases zz <;> rfl, hkk.trans k8 fun _ _ h => h⟩
            · skip
              go_wp2_with (first
                | (with_reducible refine wpList_ld rfl 24 _ rfl Tryz.isAgg24 3 Tryz.sizeOf24 w.heap.size 2 rfl (txv m.tx) rfl st ?_)
                | (go_at_call 66; refine (HT.out _).mono ?_; rintro _ w8 ⟨rfl, k8⟩; have B8 := HM2.out.keptNo k8; have cmb8 := B8.members; have c88 := B8.writes; have c98 := B8.missing; rw [HEW.out] at c88; rw [HEM.out] at c98))
              go_ret
              exact ⟨by rw [← HG3.out]; cases zz <;> rfl, hkk.trans k8 fun _ _ h => h⟩
theorem refMay_rec (m : PRec) (hm : m.Wf) (hs : m.Sm) (aw : Option Addr) (cw : Nat) (am : Option Addr) (cm : Nat) (hrw : Rd w aw (pwsv m.writes)) (hrm : Rd w am (ucells m.missing)) (haw : ∀ b, At aw b → b < w.heap.size) (ham : ∀ b, At am b → b < w.heap.size) :
    Calls Tryz.prog 28 #[.agg (recv m aw cw am cm).toArray] w fun e w' => e = .returned (.bool (rMay m)) ∧ Kept No w w' := by
  cases hS : sameR (keptR m) m
  · exact refRMay_no m hm hs hS aw cw am cm hrw hrm
  · rcases kind_cases m.kind with h | h | h | h | h | h
    · exact refRMay_1 m hm hs h hS aw cw am cm hrw hrm haw ham
    · exact refRMay_2 m hm hs h hS aw cw am cm hrw hrm haw ham
    · exact refRMay_3 m hm hs h hS aw cw am cm hrw hrm haw ham
    · exact refRMay_5 m hm hs h hS aw cw am cm hrw hrm haw ham
    · exact refRMay_7 m hm hs h hS aw cw am cm hrw hrm haw ham
    · exact refRMay_0 m hm hs h hS aw cw am cm hrw hrm haw ham
end
end Go.Proofs.YtjfmidcaekhhgaaGreatDoor
