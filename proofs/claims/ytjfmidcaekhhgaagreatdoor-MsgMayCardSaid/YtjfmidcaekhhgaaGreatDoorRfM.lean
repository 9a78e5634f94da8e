/- The document's May of a message: a walk. Printed by gen_rfm.py. -/
import Derived.Test.YtjfmidcaekhhgaaGreatDoorRfL
namespace Go.Proofs.YtjfmidcaekhhgaaGreatDoor
open Go.RowKit Go.PM

theorem Fd.of_sets (l : List Fd) (g : Fd) (hg : g ∉ l) (A m : PMsg) : g.of (Fd.sets l A m) = g.of A := by
  induction l generalizing A with
  | nil => rfl
  | cons f l ih =>
    have h1 : g ≠ f := fun e => hg (by simp [e])
    exact (ih (fun h => hg (by simp [h])) _).trans (Fd.of_other g f h1 _ _)
theorem sameM_all {x y : PMsg} (h : sameM x y = true) : x = y := by
  rw [sameM_eq] at h
  simp only [Bool.and_eq_true, beq_iff_eq, decide_eq_true_eq, Int.natCast_inj] at h
  obtain ⟨h0, h1, h2, h3, h4, h5, h6, h7, h8, h9, h10⟩ := h
  obtain ⟨a0, a1, a2, a3, a4, a5, a6, a7, a8, a9, a10⟩ := x
  obtain ⟨b0, b1, b2, b3, b4, b5, b6, b7, b8, b9, b10⟩ := y
  simp only at h0 h1 h2 h3 h4 h5 h6 h7 h8 h9 h10
  have h11 : a10 = b10 := Classical.byContradiction fun h => by rw [sameW_no h] at h10; cases h10
  subst h0 h1 h2 h3 h4 h5 h6 h7 h8 h9 h11
  rfl
theorem Fd.zero_of {m : PMsg} (f : Fd) (h : f.of m = f.of (zeroMsg m.kind)) : f.zero m = true := by
  cases f <;> simp only [Fd.zero, decide_eq_true_eq] <;> exact h
theorem keptM_may {m : PMsg} (h : keptM m = m) (hi : idx m.kind ≠ []) : mMay m = (idx m.kind).all (Fd.may m) := by
  have hz : ∀ f, f ∉ idx m.kind → f.zero m = true := fun f hf => Fd.zero_of f (by
    have := Fd.of_sets (idx m.kind) f hf (zeroMsg m.kind) m
    rwa [show Fd.sets (idx m.kind) (zeroMsg m.kind) m = m from h] at this)
  rw [Bool.eq_iff_iff]
  unfold mMay
  rw [Bool.and_eq_true, List.all_eq_true, List.all_eq_true, decide_eq_true_eq]
  constructor
  · rintro ⟨h1, _⟩ f hf
    have := h1 f (by cases f <;> decide)
    unfold Fd.ok at this
    rwa [if_pos hf] at this
  · intro h1
    refine ⟨fun f _ => ?_, hi⟩
    unfold Fd.ok
    by_cases hf : f ∈ idx m.kind
    · rw [if_pos hf]; exact h1 f hf
    · rw [if_neg hf]; exact hz f hf
theorem mMay_kept {m : PMsg} (h : mMay m = true) : keptM m = m := sets_eq h
theorem Fd.set_sm (f : Fd) {A m : PMsg} (hA : A.Sm) (hm : m.Sm) : (f.set A (f.of m)).Sm := by
  cases f
  · exact ⟨hA.item, hA.each, hA.many⟩
  · exact ⟨hA.item, hA.each, hA.many⟩
  · exact ⟨hA.item, hA.each, hA.many⟩
  · exact ⟨hA.item, hA.each, hA.many⟩
  · exact ⟨hA.item, hA.each, hA.many⟩
  · exact ⟨hA.item, hA.each, hA.many⟩
  · exact ⟨hA.item, hA.each, hA.many⟩
  · exact ⟨hA.item, hA.each, hA.many⟩
  · exact ⟨hm.item, hA.each, hA.many⟩
  · exact ⟨hA.item, hm.each, hm.many⟩
theorem Fd.sets_sm (l : List Fd) {A m : PMsg} (hA : A.Sm) (hm : m.Sm) : (Fd.sets l A m).Sm := by
  induction l generalizing A with
  | nil => exact hA
  | cons f l ih => exact ih (f.set_sm hA hm)
theorem keptM_sm {m : PMsg} (h : m.Sm) : (keptM m).Sm := Fd.sets_sm _ ⟨Nat.zero_le _, (fun _x hx => nomatch hx), Nat.zero_le _⟩ h
theorem KW.rd {w : World} {m A : PMsg} {a a' : Option Addr} (h : KW m A a a') (hr : Rd w a (pwsv m.writes)) : Rd w a' (pwsv A.writes) := by
  rcases h with ⟨rfl, h⟩ | h
  · rw [h]; exact hr
  · rw [h]; exact Rd.nil _ _
theorem fstr_ne {k : Nat} (h : idx k ≠ []) : (fstr k).isEmpty = false := by
  rw [← Bool.not_eq_true, List.isEmpty_iff]
  exact fun e => h (List.eq_nil_of_map_eq_nil e)
section
variable {w : World}
structure MyRel (w : World) (m : PMsg) (a : Option Addr) (c : Nat) (i : Value) (wr : World) : Prop where
  ex : ∃ j : Nat, j ≤ (idx m.kind).length ∧ i = .int .i64 j ∧ ∀ f ∈ (idx m.kind).take j, f.may m = true
  b1 : Blk wr w.heap.size 35 (msgv m a c)
  kept : Kept No w wr
set_option maxRecDepth 100000 in
set_option maxHeartbeats 2000000 in
theorem refMay_msg (m : PMsg) (hm : m.Wf) (hs : m.Sm) (a : Option Addr) (c : Nat) (hr : Rd w a (pwsv m.writes)) (hat : ∀ b, At a b → b < w.heap.size) :
    Calls Tryz.prog 20 #[.agg (msgv m a c).toArray] w fun e w' => e = .returned (.bool (mMay m)) ∧ Kept No w w' := by
  have B1 := Blk.new w 35 (msgv m a c)
  have K1 := (Kept.refl No w).alloc (.cells (msgv m a c).toArray 35)
  have c0 := (B1.cell 0).trans (show (msgv m a c)[0]? = some (.int .u8 m.kind) from rfl)
  have l33 := msgv_length hm a c
  have HF := Lib.hid (fun w => refFields_calls (w := w) m.kind)
  have HK := Lib.hid (fun w => refKept_calls (w := w) m hm a c)
  have HSame := Lib.hid (fun (wq : World) (a5 : Option Addr) (c5 : Nat) (h5 : KW m (keptM m) a a5) (k : Kept No w wq) => refSame_calls (w := wq) (keptM m) m a5 a c5 c (keptM_wf hm) hm (keptM_sm hs) hs ((h5.rd hr).keptNo k) (hr.keptNo k))
  have HFld := Lib.hid (fun (f : Fd) (wq : World) (k : Kept No w wq) => refField_calls (w := wq) (a := a) (c := c) f hm hs (hr.keptNo k) fun b hb => k.lt (hat b hb))
  obtain ⟨M, hM⟩ : ∃ M, mMay m = M := ⟨_, rfl⟩
  rw [hM]
  have hfl : (fstr m.kind).length = (idx m.kind).length := by simp [fstr]
  by_cases he : idx m.kind = []
  · have hfs : fstr m.kind = [] := by unfold fstr; rw [he]; rfl
    have hM0 : Hid (M = false) := Lib.hid (by rw [← hM]; unfold mMay; rw [he]; simp)
    rw [hfs] at HF
    clear hM he hfs hfl HFld HSame HK
    go_enter Tryz.func20, Tryz.ntmps20
    go_wp2_with (go_at_call 39; refine (HF.out _).mono ?_; rintro _ w2 ⟨rfl, rfl⟩)
    refine wp_region_held_drew (S := fun w' => Blk w' w.heap.size 35 (msgv m a c) ∧ Kept No w w') (by kernel_rfl) (⟨B1, K1.drew⟩) (fun hHeld => ?_)
    refine wpAnyH_take (i := 0) (oi := _) (v := ?_) rfl (by kernel_rfl) (by kernel_rfl) (by kernel_rfl) (fun _ _ _ h => h) (Or.inl ⟨by rfl, ?_⟩) (by assumption) ?_
    rotate_left
    · intro wv hSw; (try dsimp only at hSw); go_simp; (try with_reducible rfl)
    (try simp only [List.getElem_toArray, List.getElem_cons_zero, Act.put, List.setIfInBounds_toArray, List.set_cons_zero, List.set_cons_succ])
    refine wpAnyH_take (i := 1) (oi := _) (v := ?_) rfl (by kernel_rfl) (by kernel_rfl) (by kernel_rfl) (fun _ _ _ h => h) (Or.inl ⟨by rfl, ?_⟩) (by assumption) ?_
    rotate_left
    · intro wv hSw; (try dsimp only at hSw); go_simp; (try with_reducible rfl)
    (try simp only [List.getElem_toArray, List.getElem_cons_zero, List.getElem_cons_succ, Act.put, List.setIfInBounds_toArray, List.set_cons_zero, List.set_cons_succ])
    refine wpAnyH_take (i := 2) (oi := _) (v := ?_) rfl (by kernel_rfl) (by kernel_rfl) (by kernel_rfl) (fun _ _ _ h => h) (Or.inl ⟨by rfl, ?_⟩) (by assumption) ?_
    rotate_left
    · intro wv hSw; (try dsimp only at hSw); go_simp; (try with_reducible rfl)
    (try simp only [List.getElem_toArray, List.getElem_cons_zero, List.getElem_cons_succ, Act.put, List.setIfInBounds_toArray, List.set_cons_zero, List.set_cons_succ])
    refine wpAnyH_take (i := 3) (oi := _) (v := undef) rfl (by kernel_rfl) (by kernel_rfl) (by kernel_rfl) (fun _ _ _ h => h) (Or.inr ⟨by rfl, rfl⟩) (by assumption) ?_
    (try simp only [List.getElem_toArray, List.getElem_cons_zero, List.getElem_cons_succ, Act.put, List.setIfInBounds_toArray, List.set_cons_zero, List.set_cons_succ])
    refine wpAnyH_take (i := 4) (oi := _) (v := undef) rfl (by kernel_rfl) (by kernel_rfl) (by kernel_rfl) (fun _ _ _ h => h) (Or.inr ⟨by rfl, rfl⟩) (by assumption) ?_
    (try simp only [List.getElem_toArray, List.getElem_cons_zero, List.getElem_cons_succ, Act.put, List.setIfInBounds_toArray, List.set_cons_zero, List.set_cons_succ])
    refine wpAnyH_take (i := 5) (oi := _) (v := undef) rfl (by kernel_rfl) (by kernel_rfl) (by kernel_rfl) (fun _ _ _ h => h) (Or.inr ⟨by rfl, rfl⟩) (by assumption) ?_
    (try simp only [List.getElem_toArray, List.getElem_cons_zero, List.getElem_cons_succ, Act.put, List.setIfInBounds_toArray, List.set_cons_zero, List.set_cons_succ])
    refine wpAnyH_take (i := 6) (oi := _) (v := undef) rfl (by kernel_rfl) (by kernel_rfl) (by kernel_rfl) (fun _ _ _ h => h) (Or.inr ⟨by rfl, rfl⟩) (by assumption) ?_
    (try simp only [List.getElem_toArray, List.getElem_cons_zero, List.getElem_cons_succ, Act.put, List.setIfInBounds_toArray, List.set_cons_zero, List.set_cons_succ])
    refine wpAnyH_take (i := 7) (oi := _) (v := undef) rfl (by kernel_rfl) (by kernel_rfl) (by kernel_rfl) (fun _ _ _ h => h) (Or.inr ⟨by rfl, rfl⟩) (by assumption) ?_
    (try simp only [List.getElem_toArray, List.getElem_cons_zero, List.getElem_cons_succ, Act.put, List.setIfInBounds_toArray, List.set_cons_zero, List.set_cons_succ])
    refine wpAnyH_take (i := 8) (oi := _) (v := ?_) rfl (by kernel_rfl) (by kernel_rfl) (by kernel_rfl) (fun _ _ _ h => h) (Or.inl ⟨by rfl, ?_⟩) (by assumption) ?_
    rotate_left
    · intro wv hSw; (try dsimp only at hSw); go_simp; (try with_reducible rfl)
    (try simp only [List.getElem_toArray, List.getElem_cons_zero, List.getElem_cons_succ, Act.put, List.setIfInBounds_toArray, List.set_cons_zero, List.set_cons_succ])
    refine wpAnyH_done (by kernel_rfl) ?_ _

    go_wp2
    go_ret
    exact ⟨by rw [hM0.out]; rfl, K1.drew⟩
  · have hne := fstr_ne he
    have hfj : ∀ (j : Nat) (f : Fd), (idx m.kind)[j]? = some f → (fstr m.kind)[j]? = some f.ch := fun j f hf => by simp [fstr, hf]
    generalize fstr m.kind = fs at *
    have HJ := Lib.hid hfj
    clear hfj
    cases hS : sameM (keptM m) m
    case false =>
      have hM0 : Hid (M = false) := Lib.hid (by
        cases hM1 : M
        · rfl
        · rw [hM1] at hM; rw [mMay_kept hM, sameM_self] at hS; cases hS)
      rw [hS] at HSame
      clear hM he hS HJ hfl HFld
      go_enter Tryz.func20, Tryz.ntmps20
      go_wp2_with (go_at_call 39; refine (HF.out _).mono ?_; rintro _ w2 ⟨rfl, rfl⟩)
      refine wp_region_held_drew (S := fun w' => Blk w' w.heap.size 35 (msgv m a c) ∧ Kept No w w') (by kernel_rfl) (⟨B1, K1.drew⟩) (fun hHeld => ?_)
      refine wpAnyH_take (i := 0) (oi := _) (v := ?_) rfl (by kernel_rfl) (by kernel_rfl) (by kernel_rfl) (fun _ _ _ h => h) (Or.inl ⟨by rfl, ?_⟩) (by assumption) ?_
      rotate_left
      · intro wv hSw; (try dsimp only at hSw); go_simp; (try with_reducible rfl)
      (try simp only [List.getElem_toArray, List.getElem_cons_zero, Act.put, List.setIfInBounds_toArray, List.set_cons_zero, List.set_cons_succ])
      refine wpAnyH_take (i := 1) (oi := _) (v := ?_) rfl (by kernel_rfl) (by kernel_rfl) (by kernel_rfl) (fun _ _ _ h => h) (Or.inl ⟨by rfl, ?_⟩) (by assumption) ?_
      rotate_left
      · intro wv hSw; (try dsimp only at hSw); go_simp; (try with_reducible rfl)
      (try simp only [List.getElem_toArray, List.getElem_cons_zero, List.getElem_cons_succ, Act.put, List.setIfInBounds_toArray, List.set_cons_zero, List.set_cons_succ])
      refine wpAnyH_take (i := 2) (oi := _) (v := ?_) rfl (by kernel_rfl) (by kernel_rfl) (by kernel_rfl) (fun _ _ _ h => h) (Or.inl ⟨by rfl, ?_⟩) (by assumption) ?_
      rotate_left
      · intro wv hSw; (try dsimp only at hSw); go_simp; (try with_reducible rfl)
      (try simp only [List.getElem_toArray, List.getElem_cons_zero, List.getElem_cons_succ, Act.put, List.setIfInBounds_toArray, List.set_cons_zero, List.set_cons_succ])
      refine wpAnyH_take (i := 3) (oi := _) (v := ?_) rfl (by kernel_rfl) (by kernel_rfl) (by kernel_rfl) (fun _ _ _ h => h) (Or.inl ⟨by rfl, ?_⟩) (by assumption) ?_
      rotate_left
      · intro wv hSw; refine ld_val 35 ?lx1 ?l11 Tryz.isAgg35 33 Tryz.sizeOf35 w.heap.size 0 ?l21 (msgv m a c) l33 (hSw.1.seg0); (case l11 => rfl); (case l21 => rfl)
      (try simp only [List.getElem_toArray, List.getElem_cons_zero, List.getElem_cons_succ, Act.put, List.setIfInBounds_toArray, List.set_cons_zero, List.set_cons_succ])
      refine wpAnyH_take (i := 5) (oi := _) (v := ?_) rfl (by kernel_rfl) (by kernel_rfl) (by kernel_rfl) (fun _ _ _ h => h) (Or.inl ⟨by rfl, ?_⟩) (by assumption) ?_
      rotate_left
      · intro wv hSw; refine ld_val 35 ?lx2 ?l12 Tryz.isAgg35 33 Tryz.sizeOf35 w.heap.size 0 ?l22 (msgv m a c) l33 (hSw.1.seg0); (case l12 => rfl); (case l22 => rfl)
      (try simp only [List.getElem_toArray, List.getElem_cons_zero, List.getElem_cons_succ, Act.put, List.setIfInBounds_toArray, List.set_cons_zero, List.set_cons_succ])
      refine wpAnyH_ready (rs := [4]) (by kernel_rfl) (by simp) ?_
      refine AllReadyH.cons (o := _) rfl (fun K hK => ?_) AllReadyH.nil
      go_simp
      go_at_call 51; refine (HK.out _).mono ?_; rintro _ w5 ⟨a5, c5, rfl, kw5, k5⟩
      (try go_wp2_with fail)
      refine hK.out _ _ (⟨hHeld.1.kept k5 (fun h => h), hHeld.2.trans k5 fun _ _ h => h⟩) (fun hHeld => ?_)
      clear hK K
      (try simp only [List.getElem_toArray, List.getElem_cons_zero, List.getElem_cons_succ, Act.put, List.setIfInBounds_toArray, List.set_cons_zero, List.set_cons_succ])
      refine wpAnyH_ready (rs := [6]) (by kernel_rfl) (by simp) ?_
      refine AllReadyH.cons (o := _) rfl (fun K hK => ?_) AllReadyH.nil
      go_simp
      go_at_call 26; refine (HSame.out _ _ _ kw5 hHeld.2).mono ?_; rintro _ w6 ⟨rfl, k6⟩
      (try go_wp2_with fail)
      refine hK.out _ _ (⟨hHeld.1.kept k6 (fun h => h), hHeld.2.trans k6 fun _ _ h => h⟩) (fun hHeld => ?_)
      clear hK K
      (try simp only [List.getElem_toArray, List.getElem_cons_zero, List.getElem_cons_succ, Act.put, List.setIfInBounds_toArray, List.set_cons_zero, List.set_cons_succ])
      refine wpAnyH_take (i := 7) (oi := _) (v := ?_) rfl (by kernel_rfl) (by kernel_rfl) (by kernel_rfl) (fun _ _ _ h => h) (Or.inl ⟨by rfl, ?_⟩) (by assumption) ?_
      rotate_left
      · intro wv hSw; (try dsimp only at hSw); go_simp; (try with_reducible rfl)
      (try simp only [List.getElem_toArray, List.getElem_cons_zero, List.getElem_cons_succ, Act.put, List.setIfInBounds_toArray, List.set_cons_zero, List.set_cons_succ])
      refine wpAnyH_take (i := 8) (oi := _) (v := ?_) rfl (by kernel_rfl) (by kernel_rfl) (by kernel_rfl) (fun _ _ _ h => h) (Or.inl ⟨by rfl, ?_⟩) (by assumption) ?_
      rotate_left
      · intro wv hSw; (try dsimp only at hSw); go_simp; (try with_reducible rfl)
      (try simp only [List.getElem_toArray, List.getElem_cons_zero, List.getElem_cons_succ, Act.put, List.setIfInBounds_toArray, List.set_cons_zero, List.set_cons_succ])
      refine wpAnyH_done (by kernel_rfl) ?_ _

      go_wp2
      go_ret
      exact ⟨by rw [hM0.out]; rfl, hHeld.2⟩
    case true =>
      have hM1 := keptM_may (sameM_all hS) he
      rw [hM] at hM1
      rw [hS] at HSame
      have HM := Lib.hid hM1
      clear hM he hS hM1
      have hL6 := idx_le m.kind
      go_enter Tryz.func20, Tryz.ntmps20
      go_wp2_with (go_at_call 39; refine (HF.out _).mono ?_; rintro _ w2 ⟨rfl, rfl⟩)
      refine wp_region_held_drew (S := fun w' => Blk w' w.heap.size 35 (msgv m a c) ∧ Kept No w w') (by kernel_rfl) (⟨B1, K1.drew⟩) (fun hHeld => ?_)
      refine wpAnyH_take (i := 0) (oi := _) (v := ?_) rfl (by kernel_rfl) (by kernel_rfl) (by kernel_rfl) (fun _ _ _ h => h) (Or.inl ⟨by rfl, ?_⟩) (by assumption) ?_
      rotate_left
      · intro wv hSw; (try dsimp only at hSw); go_simp; (try with_reducible rfl)
      (try simp only [List.getElem_toArray, List.getElem_cons_zero, Act.put, List.setIfInBounds_toArray, List.set_cons_zero, List.set_cons_succ])
      refine wpAnyH_take (i := 1) (oi := _) (v := ?_) rfl (by kernel_rfl) (by kernel_rfl) (by kernel_rfl) (fun _ _ _ h => h) (Or.inl ⟨by rfl, ?_⟩) (by assumption) ?_
      rotate_left
      · intro wv hSw; (try dsimp only at hSw); go_simp; (try with_reducible rfl)
      (try simp only [List.getElem_toArray, List.getElem_cons_zero, List.getElem_cons_succ, Act.put, List.setIfInBounds_toArray, List.set_cons_zero, List.set_cons_succ])
      refine wpAnyH_take (i := 2) (oi := _) (v := ?_) rfl (by kernel_rfl) (by kernel_rfl) (by kernel_rfl) (fun _ _ _ h => h) (Or.inl ⟨by rfl, ?_⟩) (by assumption) ?_
      rotate_left
      · intro wv hSw; (try dsimp only at hSw); go_simp; (try with_reducible rfl)
      (try simp only [List.getElem_toArray, List.getElem_cons_zero, List.getElem_cons_succ, Act.put, List.setIfInBounds_toArray, List.set_cons_zero, List.set_cons_succ])
      refine wpAnyH_take (i := 3) (oi := _) (v := ?_) rfl (by kernel_rfl) (by kernel_rfl) (by kernel_rfl) (fun _ _ _ h => h) (Or.inl ⟨by rfl, ?_⟩) (by assumption) ?_
      rotate_left
      · intro wv hSw; refine ld_val 35 ?lx1 ?l11 Tryz.isAgg35 33 Tryz.sizeOf35 w.heap.size 0 ?l21 (msgv m a c) l33 (hSw.1.seg0); (case l11 => rfl); (case l21 => rfl)
      (try simp only [List.getElem_toArray, List.getElem_cons_zero, List.getElem_cons_succ, Act.put, List.setIfInBounds_toArray, List.set_cons_zero, List.set_cons_succ])
      refine wpAnyH_take (i := 5) (oi := _) (v := ?_) rfl (by kernel_rfl) (by kernel_rfl) (by kernel_rfl) (fun _ _ _ h => h) (Or.inl ⟨by rfl, ?_⟩) (by assumption) ?_
      rotate_left
      · intro wv hSw; refine ld_val 35 ?lx2 ?l12 Tryz.isAgg35 33 Tryz.sizeOf35 w.heap.size 0 ?l22 (msgv m a c) l33 (hSw.1.seg0); (case l12 => rfl); (case l22 => rfl)
      (try simp only [List.getElem_toArray, List.getElem_cons_zero, List.getElem_cons_succ, Act.put, List.setIfInBounds_toArray, List.set_cons_zero, List.set_cons_succ])
      refine wpAnyH_ready (rs := [4]) (by kernel_rfl) (by simp) ?_
      refine AllReadyH.cons (o := _) rfl (fun K hK => ?_) AllReadyH.nil
      go_simp
      go_at_call 51; refine (HK.out _).mono ?_; rintro _ w5 ⟨a5, c5, rfl, kw5, k5⟩
      (try go_wp2_with fail)
      refine hK.out _ _ (⟨hHeld.1.kept k5 (fun h => h), hHeld.2.trans k5 fun _ _ h => h⟩) (fun hHeld => ?_)
      clear hK K
      (try simp only [List.getElem_toArray, List.getElem_cons_zero, List.getElem_cons_succ, Act.put, List.setIfInBounds_toArray, List.set_cons_zero, List.set_cons_succ])
      refine wpAnyH_ready (rs := [6]) (by kernel_rfl) (by simp) ?_
      refine AllReadyH.cons (o := _) rfl (fun K hK => ?_) AllReadyH.nil
      go_simp
      go_at_call 26; refine (HSame.out _ _ _ kw5 hHeld.2).mono ?_; rintro _ w6 ⟨rfl, k6⟩
      (try go_wp2_with fail)
      refine hK.out _ _ (⟨hHeld.1.kept k6 (fun h => h), hHeld.2.trans k6 fun _ _ h => h⟩) (fun hHeld => ?_)
      clear hK K
      (try simp only [List.getElem_toArray, List.getElem_cons_zero, List.getElem_cons_succ, Act.put, List.setIfInBounds_toArray, List.set_cons_zero, List.set_cons_succ])
      refine wpAnyH_take (i := 7) (oi := _) (v := ?_) rfl (by kernel_rfl) (by kernel_rfl) (by kernel_rfl) (fun _ _ _ h => h) (Or.inl ⟨by rfl, ?_⟩) (by assumption) ?_
      rotate_left
      · intro wv hSw; (try dsimp only at hSw); go_simp; (try with_reducible rfl)
      (try simp only [List.getElem_toArray, List.getElem_cons_zero, List.getElem_cons_succ, Act.put, List.setIfInBounds_toArray, List.set_cons_zero, List.set_cons_succ])
      refine wpAnyH_take (i := 8) (oi := _) (v := ?_) rfl (by kernel_rfl) (by kernel_rfl) (by kernel_rfl) (fun _ _ _ h => h) (Or.inl ⟨by rfl, ?_⟩) (by assumption) ?_
      rotate_left
      · intro wv hSw; (try dsimp only at hSw); go_simp; (try with_reducible rfl)
      (try simp only [List.getElem_toArray, List.getElem_cons_zero, List.getElem_cons_succ, Act.put, List.setIfInBounds_toArray, List.set_cons_zero, List.set_cons_succ])
      refine wpAnyH_done (by kernel_rfl) ?_ _

      have B6 := hHeld.1
      have K6 := hHeld.2
      clear HSame HK HF c0 B1 K1 hne
      go_wp2
      go_loopw [4] (fun i wr => MyRel w m a c i wr) (fun i _ => (idx m.kind).length - (intOf i).toNat)
      case atStart => exact ⟨⟨0, Nat.zero_le _, rfl, fun f hf => by simp at hf⟩, B6, K6⟩
      case round =>
        obtain ⟨⟨j, hj, rfl, hall⟩, hb1, hK⟩ := hrel
        by_cases hlt : j < (idx m.kind).length
        · obtain ⟨f, hf⟩ : ∃ f, (idx m.kind)[j]? = some f := ⟨_, List.getElem?_eq_getElem hlt⟩
          have hx := fun w' => run_index_str (P := Tryz.prog) (w := w') 9 fs j f.ch Tryz.ru_string (HJ.out j f hf)
          have hmem : f ∈ idx m.kind := List.mem_of_getElem? hf
          have hnext : f.may m = true → ∀ g ∈ (idx m.kind).take (j + 1), g.may m = true := fun h g hg => by
            rw [List.take_succ_eq_append_getElem hlt, List.mem_append, List.mem_singleton] at hg
            rcases hg with hg | hg
            · exact hall g hg
            · rw [hg, (List.getElem?_eq_some_iff.1 hf).2]; exact h
          have HN := Lib.hid hnext
          have HMEM := Lib.hid hmem
          clear hall hnext hmem
          have HFl := Lib.hid (fun wq => HFld.out f wq)
          clear HFld HJ
          generalize f.ch.toNat = ch at *
          clear hf
          have hltc : (j : Int) < fs.length := by omega
          obtain ⟨L, hL⟩ : ∃ L, (idx m.kind).length = L := ⟨_, rfl⟩
          rw [hL] at hlt hj hL6 hfl ⊢
          cases hv : f.may m
          case false =>
            have hM0 : Hid (M = false) := Lib.hid (by
              rw [HM.out, ← Bool.not_eq_true, List.all_eq_true]; intro h; rw [h f HMEM.out] at hv; cases hv)
            rw [hv] at HFl
            clear hv HM HMEM HN hL
            go_wp2
            refine wp_region_held_drew (S := fun w' => Blk w' w.heap.size 35 (msgv m a c) ∧ Kept No w w') (by kernel_rfl) (⟨hb1, hK.drew⟩) (fun hHeld => ?_)
            refine wpAnyH_take (i := 0) (oi := _) (v := ?_) rfl (by kernel_rfl) (by kernel_rfl) (by kernel_rfl) (fun _ _ _ h => h) (Or.inl ⟨by rfl, ?_⟩) (by assumption) ?_
            rotate_left
            · intro wv hSw; refine ld_val 35 ?lx3 ?l13 Tryz.isAgg35 33 Tryz.sizeOf35 w.heap.size 0 ?l23 (msgv m a c) l33 (hSw.1.seg0); (case l13 => rfl); (case l23 => rfl)
            (try simp only [List.getElem_toArray, List.getElem_cons_zero, Act.put, List.setIfInBounds_toArray, List.set_cons_zero, List.set_cons_succ])
            refine wpAnyH_take (i := 1) (oi := _) (v := ?_) rfl (by kernel_rfl) (by kernel_rfl) (by kernel_rfl) (fun _ _ _ h => h) (Or.inl ⟨by rfl, ?_⟩) (by assumption) ?_
            rotate_left
            · intro wv hSw; (try dsimp only at hSw); go_simp; (try with_reducible rfl)
            (try simp only [List.getElem_toArray, List.getElem_cons_zero, List.getElem_cons_succ, Act.put, List.setIfInBounds_toArray, List.set_cons_zero, List.set_cons_succ])
            refine wpAnyH_take (i := 2) (oi := _) (v := ?_) rfl (by kernel_rfl) (by kernel_rfl) (by kernel_rfl) (fun _ _ _ h => h) (Or.inl ⟨by rfl, ?_⟩) (by assumption) ?_
            rotate_left
            · intro wv hSw; (try dsimp only at hSw); go_simp; (try with_reducible rfl)
            (try simp only [List.getElem_toArray, List.getElem_cons_zero, List.getElem_cons_succ, Act.put, List.setIfInBounds_toArray, List.set_cons_zero, List.set_cons_succ])
            refine wpAnyH_take (i := 3) (oi := _) (v := ?_) rfl (by kernel_rfl) (by kernel_rfl) (by kernel_rfl) (fun _ _ _ h => h) (Or.inl ⟨by rfl, ?_⟩) (by assumption) ?_
            rotate_left
            · intro wv hSw; (try dsimp only at hSw); go_simp; (try with_reducible rfl)
            (try simp only [List.getElem_toArray, List.getElem_cons_zero, List.getElem_cons_succ, Act.put, List.setIfInBounds_toArray, List.set_cons_zero, List.set_cons_succ])
            refine wpAnyH_ready (rs := [4]) (by kernel_rfl) (by simp) ?_
            refine AllReadyH.cons (o := _) rfl (fun K hK => ?_) AllReadyH.nil
            go_simp
            go_at_call 52; refine (HFl.out _ hHeld.2).mono ?_; rintro _ w7 ⟨rfl, k7⟩
            (try go_wp2_with fail)
            refine hK.out _ _ (⟨hHeld.1.kept k7 (fun h => h), hHeld.2.trans k7 fun _ _ h => h⟩) (fun hHeld => ?_)
            clear hK K
            (try simp only [List.getElem_toArray, List.getElem_cons_zero, List.getElem_cons_succ, Act.put, List.setIfInBounds_toArray, List.set_cons_zero, List.set_cons_succ])
            refine wpAnyH_take (i := 5) (oi := _) (v := ?_) rfl (by kernel_rfl) (by kernel_rfl) (by kernel_rfl) (fun _ _ _ h => h) (Or.inl ⟨by rfl, ?_⟩) (by assumption) ?_
            rotate_left
            · intro wv hSw; (try dsimp only at hSw); go_simp; (try with_reducible rfl)
            (try simp only [List.getElem_toArray, List.getElem_cons_zero, List.getElem_cons_succ, Act.put, List.setIfInBounds_toArray, List.set_cons_zero, List.set_cons_succ])
            refine wpAnyH_done (by kernel_rfl) ?_ _

            go_wp2
            go_ret
            exact ⟨by rw [hM0.out]; rfl, hHeld.2⟩
          case true =>
            rw [hv] at HFl
            have HN' := Lib.hid (HN.out hv)
            clear hv HN HMEM
            go_wp2
            refine wp_region_held_drew (S := fun w' => Blk w' w.heap.size 35 (msgv m a c) ∧ Kept No w w') (by kernel_rfl) (⟨hb1, hK.drew⟩) (fun hHeld => ?_)
            refine wpAnyH_take (i := 0) (oi := _) (v := ?_) rfl (by kernel_rfl) (by kernel_rfl) (by kernel_rfl) (fun _ _ _ h => h) (Or.inl ⟨by rfl, ?_⟩) (by assumption) ?_
            rotate_left
            · intro wv hSw; refine ld_val 35 ?lx3 ?l13 Tryz.isAgg35 33 Tryz.sizeOf35 w.heap.size 0 ?l23 (msgv m a c) l33 (hSw.1.seg0); (case l13 => rfl); (case l23 => rfl)
            (try simp only [List.getElem_toArray, List.getElem_cons_zero, Act.put, List.setIfInBounds_toArray, List.set_cons_zero, List.set_cons_succ])
            refine wpAnyH_take (i := 1) (oi := _) (v := ?_) rfl (by kernel_rfl) (by kernel_rfl) (by kernel_rfl) (fun _ _ _ h => h) (Or.inl ⟨by rfl, ?_⟩) (by assumption) ?_
            rotate_left
            · intro wv hSw; (try dsimp only at hSw); go_simp; (try with_reducible rfl)
            (try simp only [List.getElem_toArray, List.getElem_cons_zero, List.getElem_cons_succ, Act.put, List.setIfInBounds_toArray, List.set_cons_zero, List.set_cons_succ])
            refine wpAnyH_take (i := 2) (oi := _) (v := ?_) rfl (by kernel_rfl) (by kernel_rfl) (by kernel_rfl) (fun _ _ _ h => h) (Or.inl ⟨by rfl, ?_⟩) (by assumption) ?_
            rotate_left
            · intro wv hSw; (try dsimp only at hSw); go_simp; (try with_reducible rfl)
            (try simp only [List.getElem_toArray, List.getElem_cons_zero, List.getElem_cons_succ, Act.put, List.setIfInBounds_toArray, List.set_cons_zero, List.set_cons_succ])
            refine wpAnyH_take (i := 3) (oi := _) (v := ?_) rfl (by kernel_rfl) (by kernel_rfl) (by kernel_rfl) (fun _ _ _ h => h) (Or.inl ⟨by rfl, ?_⟩) (by assumption) ?_
            rotate_left
            · intro wv hSw; (try dsimp only at hSw); go_simp; (try with_reducible rfl)
            (try simp only [List.getElem_toArray, List.getElem_cons_zero, List.getElem_cons_succ, Act.put, List.setIfInBounds_toArray, List.set_cons_zero, List.set_cons_succ])
            refine wpAnyH_ready (rs := [4]) (by kernel_rfl) (by simp) ?_
            refine AllReadyH.cons (o := _) rfl (fun K hK => ?_) AllReadyH.nil
            go_simp
            go_at_call 52; refine (HFl.out _ hHeld.2).mono ?_; rintro _ w7 ⟨rfl, k7⟩
            (try go_wp2_with fail)
            refine hK.out _ _ (⟨hHeld.1.kept k7 (fun h => h), hHeld.2.trans k7 fun _ _ h => h⟩) (fun hHeld => ?_)
            clear hK K
            (try simp only [List.getElem_toArray, List.getElem_cons_zero, List.getElem_cons_succ, Act.put, List.setIfInBounds_toArray, List.set_cons_zero, List.set_cons_succ])
            refine wpAnyH_take (i := 5) (oi := _) (v := ?_) rfl (by kernel_rfl) (by kernel_rfl) (by kernel_rfl) (fun _ _ _ h => h) (Or.inl ⟨by rfl, ?_⟩) (by assumption) ?_
            rotate_left
            · intro wv hSw; (try dsimp only at hSw); go_simp; (try with_reducible rfl)
            (try simp only [List.getElem_toArray, List.getElem_cons_zero, List.getElem_cons_succ, Act.put, List.setIfInBounds_toArray, List.set_cons_zero, List.set_cons_succ])
            refine wpAnyH_done (by kernel_rfl) ?_ _

            go_wp2
            refine ⟨⟨⟨j + 1, by rw [hL]; omega, by go_num, HN'.out⟩, hHeld.1, hHeld.2⟩, by simp [intOf]; omega⟩
        · have hge : (fs.length : Int) ≤ j := by omega
          have hMt : M = true := by
            rw [HM.out, List.all_eq_true]; intro f hf; exact hall f (by rw [List.take_of_length_le (by omega)]; exact hf)
          have HMt := Lib.hid hMt
          clear hMt hall HM
          go_wp2
          go_ret
          exact ⟨by rw [HMt.out]; rfl, hK⟩
end
end Go.Proofs.YtjfmidcaekhhgaaGreatDoor
