/- Which fields of a record may be, or are zero, as walks. Printed by gen_rcn.py. -/
import Derived.Test.YtjfmidcaekhhgaaGreatDoorRcM
namespace Go.Proofs.YtjfmidcaekhhgaaGreatDoor
open Go.RowKit Go.PM

section
variable {w : World}
theorem isSet_calls (n : Nat) : Calls Tryz.prog 100 #[.int .u64 n] w fun e w' => e = .returned (.bool (isSet n)) ∧ w = w' := by
  by_cases h : n ≤ 255
  · have h1 : (n : Int) ≤ 255 := by omega
    rw [show isSet n = true from decide_eq_true h]
    clear h
    go_enter Tryz.func100, Tryz.ntmps100
    go_wp2
    go_ret
    exact ⟨rfl, rfl⟩
  · have h1 := decide_eq_false (show ¬ (n : Int) ≤ 255 by omega)
    rw [show isSet n = false from decide_eq_false h]
    clear h
    go_enter Tryz.func100, Tryz.ntmps100
    go_wp2
    go_ret
    exact ⟨rfl, rfl⟩
theorem notSet_calls (n : Nat) : Calls Tryz.prog 102 #[.int .u64 n] w fun e w' => e = .returned (.bool (!isSet n)) ∧ w = w' := by
  have HC := Lib.hid (fun w => isSet_calls (w := w) n)
  generalize isSet n = z at *
  go_enter Tryz.func102, Tryz.ntmps102
  go_wp2_with fail
  refine (HC.out _).mono ?_
  rintro _ _ ⟨rfl, rfl⟩
  go_wp2_with fail
  go_ret
  exact ⟨rfl, rfl⟩
def IfRel (l : List Nat) (w0 : World) (i : Value) (wr : World) : Prop := ∃ k : Nat, k ≤ l.length ∧ i = .int .i64 k ∧ (∀ j, j < k → isSet (l.getD j 0) = true) ∧ w0 = wr
set_option maxRecDepth 100000 in
set_option maxHeartbeats 1000000 in
theorem indexFunc_calls (l : List Nat) (n : Nat) (hn : l.length = n) (hb : n ≤ 140737488355328) (a : Option Addr) (c : Nat) (hr : Rd w a (ucells l)) :
    Calls Tryz.prog 123 #[.slice a n c, .func (.func 102) #[] #[]] w fun e w' => (∃ z : Int, e = .returned (.int .i64 z) ∧ -1 ≤ z ∧ z ≤ 140737488355328 ∧ (0 ≤ z ↔ l.all isSet = false)) ∧ w = w' := by
  have HC := Lib.hid (fun w n => notSet_calls (w := w) n)
  go_enter Tryz.func123, Tryz.ntmps123
  go_wp2
  go_loopw [8] (fun i wr => IfRel l w i wr) (fun i _ => n - (intOf i).toNat)
  case atStart => exact ⟨0, by omega, rfl, fun j hj => by omega, rfl⟩
  case round =>
    obtain ⟨k, hk, rfl, hall, rfl⟩ := hrel
    by_cases hlt : k < n
    · have hkl : k < l.length := by omega
      have i1 : (k : Int) < n := by omega
      have i0 : (0 : Int) ≤ k := by omega
      have hk2 : (k : Int) ≤ 140737488355328 := by omega
      obtain ⟨x, hx⟩ : ∃ x, l[k] = x := ⟨_, rfl⟩
      obtain ⟨b, o, rfl, hc⟩ := hr k (.int .u64 x) (by simp [ucells, hkl, hx])
      have hgd : l.getD k 0 = x := by simp [List.getD_eq_getElem?_getD, hkl, hx]
      cases hs : isSet x
      · have HI := Lib.hid (show l.all isSet = false by
          rw [List.all_eq_false]
          exact ⟨x, hx ▸ List.getElem_mem hkl, by rw [hs]; decide⟩)
        have HX := Lib.hid (fun w => hs ▸ HC.out w x)
        clear hx hgd hall hr hs
        go_wp2_with (go_at_call 102; refine (HX.out _).mono ?_; rintro _ _ ⟨rfl, rfl⟩)
        go_ret
        exact ⟨⟨k, rfl, by omega, by omega, fun _ => HI.out, fun _ => by omega⟩, rfl⟩
      · have HN := Lib.hid (show ∀ j, j < k + 1 → isSet (l.getD j 0) = true from fun j hj => by
          rcases Nat.lt_succ_iff_lt_or_eq.1 hj with h | h
          · exact hall j h
          · rw [h, hgd]; exact hs)
        have HX := Lib.hid (fun w => hs ▸ HC.out w x)
        clear hx hgd hall hs
        go_wp2_with (go_at_call 102; refine (HX.out _).mono ?_; rintro _ _ ⟨rfl, rfl⟩)
        exact ⟨⟨k + 1, by omega, by go_num, HN.out, rfl⟩, by simp [intOf]; omega⟩
    · obtain rfl : n = k := by omega
      have HN := Lib.hid (show l.all isSet = true by
        rw [List.all_eq_true]
        intro x hx
        obtain ⟨j, hj, rfl⟩ := List.getElem_of_mem hx
        have := hall j (by omega)
        rwa [List.getD_eq_getElem?_getD, List.getElem?_eq_getElem hj] at this)
      clear hall
      go_wp2
      go_ret
      exact ⟨⟨-1, rfl, by omega, by omega, fun h => absurd h (by omega), fun h => by rw [HN.out] at h; cases h⟩, rfl⟩
theorem containsFunc_calls (l : List Nat) (n : Nat) (hn : l.length = n) (hb : n ≤ 140737488355328) (a : Option Addr) (c : Nat) (hr : Rd w a (ucells l)) :
    Calls Tryz.prog 101 #[.slice a n c, .func (.func 102) #[] #[]] w fun e w' => e = .returned (.bool (!l.all isSet)) ∧ w = w' := by
  have HC := Lib.hid (indexFunc_calls l n hn hb a c hr)
  generalize hz : l.all isSet = z
  clear hr hn
  go_enter Tryz.func101, Tryz.ntmps101
  go_wp2_with fail
  refine HC.out.mono ?_
  rintro _ _ ⟨⟨y, rfl, hy, hy8, hyl⟩, rfl⟩
  have HZ := Lib.hid (show decide (0 ≤ y) = !z by
    rw [← hz]
    cases ha : l.all isSet
    · exact decide_eq_true (hyl.2 ha)
    · exact decide_eq_false fun h => by rw [hyl.1 h] at ha; cases ha)
  clear hyl hz HC
  go_wp2_with fail
  go_ret
  exact ⟨by rw [← HZ.out]; rfl, rfl⟩
end

section
variable {w : World} {T : TypeId} {g : Nat} {m : PRec} {aw am : Option Addr} {cw cm : Nat}
set_option maxRecDepth 100000 in
set_option maxHeartbeats 1000000 in
theorem rmay_n (h : Rc w T g m aw cw am cm) : Calls Tryz.prog 63 #[.pointer (some ⟨g, 0, none⟩), .int .i64 0] w fun e w' => e = .returned (.bool (isCount m.n)) ∧ Kept No w w' := by
  have c0 := h.n_
  have t0 := h.wf.n
  clear h
  by_cases h2 : 1 ≤ m.n
  · have q2 : (1 : Int) ≤ m.n := by omega
    have hd : isCount m.n = decide (((m.n : Nat) : Int) ≤ 2147483647) := by
      unfold isCount maxC
      rw [Bool.eq_iff_iff]; simp; omega
    rw [hd]
    generalize hz : decide (((m.n : Nat) : Int) ≤ 2147483647) = z at *
    clear h2 hd
    go_enter Tryz.func63, Tryz.ntmps63
    go_wp2
    go_ret
    exact ⟨by rw [← hz]; rfl, Kept.refl _ _⟩
  · have q2 := decide_eq_false (show ¬ (1 : Int) ≤ m.n by omega)
    rw [show isCount m.n = false from decide_eq_false (by omega)]
    clear h2
    go_enter Tryz.func63, Tryz.ntmps63
    go_wp2
    go_ret
    exact ⟨by rfl, Kept.refl _ _⟩
set_option maxRecDepth 100000 in
set_option maxHeartbeats 1000000 in
theorem rmay_tx (h : Rc w T g m aw cw am cm) : Calls Tryz.prog 63 #[.pointer (some ⟨g, 0, none⟩), .int .i64 1] w fun e w' => e = .returned (.bool (txMay m.tx)) ∧ Kept No w w' := by
  have sg := h.tx
  have HC := Lib.hid (txMay_calls (w := w) m.tx h.wf.tx)
  clear h
  go_enter Tryz.func63, Tryz.ntmps63
  go_wp2_with (first
    | (with_reducible refine wpList_ld rfl 24 _ rfl Tryz.isAgg24 3 Tryz.sizeOf24 g 2 rfl (txv m.tx) rfl sg ?_)
    | (go_at_call 88; refine HC.out.mono ?_; rintro _ w2 ⟨rfl, k2⟩))
  go_ret
  exact ⟨rfl, k2⟩
set_option maxRecDepth 100000 in
set_option maxHeartbeats 1000000 in
theorem rmay_reg (h : Rc w T g m aw cw am cm) : Calls Tryz.prog 63 #[.pointer (some ⟨g, 0, none⟩), .int .i64 2] w fun e w' => e = .returned (.bool (regMay m.reg)) ∧ Kept No w w' := by
  have sg := h.reg
  have HC := Lib.hid (regMay_calls (w := w) m.reg h.wf.reg)
  clear h
  go_enter Tryz.func63, Tryz.ntmps63
  go_wp2_with (first
    | (with_reducible refine wpList_ld rfl 26 _ rfl Tryz.isAgg26 2 Tryz.sizeOf26 g 5 rfl (regv m.reg) rfl sg ?_)
    | (go_at_call 89; refine HC.out.mono ?_; rintro _ w2 ⟨rfl, k2⟩))
  go_ret
  exact ⟨rfl, k2⟩
set_option maxRecDepth 100000 in
set_option maxHeartbeats 1000000 in
theorem rmay_members (h : Rc w T g m aw cw am cm) : Calls Tryz.prog 63 #[.pointer (some ⟨g, 0, none⟩), .int .i64 3] w fun e w' => e = .returned (.bool (isSet m.members)) ∧ Kept No w w' := by
  have c0 := h.members
  have HC := Lib.hid (isSet_calls (w := w) m.members)
  clear h
  generalize isSet m.members = z at *
  go_enter Tryz.func63, Tryz.ntmps63
  go_wp2_with (go_at_call 100; refine HC.out.mono ?_; rintro _ _ ⟨rfl, rfl⟩)
  go_ret
  exact ⟨rfl, Kept.refl _ _⟩
set_option maxRecDepth 100000 in
set_option maxHeartbeats 1000000 in
theorem rmay_writes (h : Rc w T g m aw cw am cm) : Calls Tryz.prog 63 #[.pointer (some ⟨g, 0, none⟩), .int .i64 4] w fun e w' => e = .returned (.bool (someMay m)) ∧ Kept No w w' := by
  have c0 := h.writes
  have HC := Lib.hid (writesMay_calls (w := w) m.writes m.writes.length rfl aw cw h.wf.writes h.sm.each h.rdw h.sm.many)
  clear h
  unfold someMay
  generalize writesMay m.writes = z at *
  by_cases h0 : m.writes = []
  · have hl : m.writes.length = 0 := by rw [h0]; rfl
    rw [hl] at c0
    rw [decide_eq_false (fun x => x h0)]
    clear HC hl h0
    go_enter Tryz.func63, Tryz.ntmps63
    go_wp2
    go_ret
    exact ⟨by rfl, Kept.refl _ _⟩
  · have q : (0 : Int) < m.writes.length := by have := List.length_pos_iff.2 h0; omega
    rw [decide_eq_true h0]
    clear h0
    go_enter Tryz.func63, Tryz.ntmps63
    go_wp2_with (go_at_call 23; refine HC.out.mono ?_; rintro _ w2 ⟨rfl, k2⟩)
    go_ret
    exact ⟨by rfl, k2⟩
set_option maxRecDepth 100000 in
set_option maxHeartbeats 1000000 in
theorem rmay_missing (h : Rc w T g m aw cw am cm) : Calls Tryz.prog 63 #[.pointer (some ⟨g, 0, none⟩), .int .i64 5] w fun e w' => e = .returned (.bool (missMay m)) ∧ Kept No w w' := by
  have HC := Lib.hid (fun W hr => containsFunc_calls (w := W) m.missing m.missing.length rfl h.sm.miss am cm hr)
  have hS0 : (fun w' => Rc w' T g m aw cw am cm ∧ Kept No w w') w.drew := ⟨h.keptNo (Kept.refl No w).drew, (Kept.refl No w).drew⟩
  unfold missMay
  clear h
  generalize m.missing.all isSet = z at *
  by_cases h0 : m.missing.length = m.writes.length
  · rw [decide_eq_true h0]
    have q : ((m.missing.length : Int) == m.writes.length) = true := beq_iff_eq.2 (by omega)
    clear h0
    go_enter Tryz.func63, Tryz.ntmps63
    go_wp2_with fail
    refine wp_region_held_drew (S := fun w' => Rc w' T g m aw cw am cm ∧ Kept No w w') (by kernel_rfl) (hS0) (fun hHeld => ?_)
    refine wpAnyH_take (i := 0) (oi := _) (v := ?_) rfl (by kernel_rfl) (by kernel_rfl) (by kernel_rfl) (fun _ _ _ h => h) (Or.inl ⟨by rfl, ?_⟩) (by assumption) ?_
    rotate_left
    · intro wv hSw; (try dsimp only at hSw); go_simp; (try with_reducible rfl)
    (try simp only [List.getElem_toArray, List.getElem_cons_zero, Act.put, List.setIfInBounds_toArray, List.set_cons_zero, List.set_cons_succ])
    refine wpAnyH_take (i := 1) (oi := _) (v := ?_) rfl (by kernel_rfl) (by kernel_rfl) (by kernel_rfl) (fun _ _ _ h => h) (Or.inl ⟨by rfl, ?_⟩) (by assumption) ?_
    rotate_left
    · intro wv hSw; (try dsimp only at hSw); go_simp; (try with_reducible rfl)
    (try simp only [List.getElem_toArray, List.getElem_cons_zero, List.getElem_cons_succ, Act.put, List.setIfInBounds_toArray, List.set_cons_zero, List.set_cons_succ])
    refine wpAnyH_take (i := 2) (oi := _) (v := ?_) rfl (by kernel_rfl) (by kernel_rfl) (by kernel_rfl) (fun _ _ _ h => h) (Or.inl ⟨by rfl, ?_⟩) (by assumption) ?_
    rotate_left
    · intro wv hSw; (try dsimp only at hSw); go_simp; (try with_reducible rfl)
    (try simp only [List.getElem_toArray, List.getElem_cons_zero, List.getElem_cons_succ, Act.put, List.setIfInBounds_toArray, List.set_cons_zero, List.set_cons_succ])
    refine wpAnyH_take (i := 3) (oi := _) (v := ?_) rfl (by kernel_rfl) (by kernel_rfl) (by kernel_rfl) (fun _ _ _ h => h) (Or.inl ⟨by rfl, ?_⟩) (by assumption) ?_
    rotate_left
    · intro wv hSw; (try dsimp only at hSw); have cc := hSw.1.missing; go_simp; (try with_reducible rfl)
    (try simp only [List.getElem_toArray, List.getElem_cons_zero, List.getElem_cons_succ, Act.put, List.setIfInBounds_toArray, List.set_cons_zero, List.set_cons_succ])
    refine wpAnyH_take (i := 4) (oi := _) (v := ?_) rfl (by kernel_rfl) (by kernel_rfl) (by kernel_rfl) (fun _ _ _ h => h) (Or.inl ⟨by rfl, ?_⟩) (by assumption) ?_
    rotate_left
    · intro wv hSw; (try dsimp only at hSw); go_simp; (try with_reducible rfl)
    (try simp only [List.getElem_toArray, List.getElem_cons_zero, List.getElem_cons_succ, Act.put, List.setIfInBounds_toArray, List.set_cons_zero, List.set_cons_succ])
    refine wpAnyH_take (i := 5) (oi := _) (v := ?_) rfl (by kernel_rfl) (by kernel_rfl) (by kernel_rfl) (fun _ _ _ h => h) (Or.inl ⟨by rfl, ?_⟩) (by assumption) ?_
    rotate_left
    · intro wv hSw; (try dsimp only at hSw); go_simp; (try with_reducible rfl)
    (try simp only [List.getElem_toArray, List.getElem_cons_zero, List.getElem_cons_succ, Act.put, List.setIfInBounds_toArray, List.set_cons_zero, List.set_cons_succ])
    refine wpAnyH_take (i := 6) (oi := _) (v := ?_) rfl (by kernel_rfl) (by kernel_rfl) (by kernel_rfl) (fun _ _ _ h => h) (Or.inl ⟨by rfl, ?_⟩) (by assumption) ?_
    rotate_left
    · intro wv hSw; (try dsimp only at hSw); go_simp; (try with_reducible rfl)
    (try simp only [List.getElem_toArray, List.getElem_cons_zero, List.getElem_cons_succ, Act.put, List.setIfInBounds_toArray, List.set_cons_zero, List.set_cons_succ])
    refine wpAnyH_take (i := 7) (oi := _) (v := ?_) rfl (by kernel_rfl) (by kernel_rfl) (by kernel_rfl) (fun _ _ _ h => h) (Or.inl ⟨by rfl, ?_⟩) (by assumption) ?_
    rotate_left
    · intro wv hSw; (try dsimp only at hSw); go_simp; (try with_reducible rfl)
    (try simp only [List.getElem_toArray, List.getElem_cons_zero, List.getElem_cons_succ, Act.put, List.setIfInBounds_toArray, List.set_cons_zero, List.set_cons_succ])
    refine wpAnyH_take (i := 8) (oi := _) (v := ?_) rfl (by kernel_rfl) (by kernel_rfl) (by kernel_rfl) (fun _ _ _ h => h) (Or.inl ⟨by rfl, ?_⟩) (by assumption) ?_
    rotate_left
    · intro wv hSw; (try dsimp only at hSw); have cc := hSw.1.writes; go_simp; (try with_reducible rfl)
    (try simp only [List.getElem_toArray, List.getElem_cons_zero, List.getElem_cons_succ, Act.put, List.setIfInBounds_toArray, List.set_cons_zero, List.set_cons_succ])
    refine wpAnyH_take (i := 9) (oi := _) (v := ?_) rfl (by kernel_rfl) (by kernel_rfl) (by kernel_rfl) (fun _ _ _ h => h) (Or.inl ⟨by rfl, ?_⟩) (by assumption) ?_
    rotate_left
    · intro wv hSw; (try dsimp only at hSw); go_simp; (try with_reducible rfl)
    (try simp only [List.getElem_toArray, List.getElem_cons_zero, List.getElem_cons_succ, Act.put, List.setIfInBounds_toArray, List.set_cons_zero, List.set_cons_succ])
    refine wpAnyH_take (i := 10) (oi := _) (v := ?_) rfl (by kernel_rfl) (by kernel_rfl) (by kernel_rfl) (fun _ _ _ h => h) (Or.inl ⟨by rfl, ?_⟩) (by assumption) ?_
    rotate_left
    · intro wv hSw; (try dsimp only at hSw); go_simp; (try with_reducible rfl)
    (try simp only [List.getElem_toArray, List.getElem_cons_zero, List.getElem_cons_succ, Act.put, List.setIfInBounds_toArray, List.set_cons_zero, List.set_cons_succ])
    refine wpAnyH_take (i := 11) (oi := _) (v := ?_) rfl (by kernel_rfl) (by kernel_rfl) (by kernel_rfl) (fun _ _ _ h => h) (Or.inl ⟨by rfl, ?_⟩) (by assumption) ?_
    rotate_left
    · intro wv hSw; (try dsimp only at hSw); go_simp; (try with_reducible rfl)
    (try simp only [List.getElem_toArray, List.getElem_cons_zero, List.getElem_cons_succ, Act.put, List.setIfInBounds_toArray, List.set_cons_zero, List.set_cons_succ])
    refine wpAnyH_take (i := 12) (oi := _) (v := ?_) rfl (by kernel_rfl) (by kernel_rfl) (by kernel_rfl) (fun _ _ _ h => h) (Or.inl ⟨by rfl, ?_⟩) (by assumption) ?_
    rotate_left
    · intro wv hSw; (try dsimp only at hSw); go_simp; (try with_reducible rfl)
    (try simp only [List.getElem_toArray, List.getElem_cons_zero, List.getElem_cons_succ, Act.put, List.setIfInBounds_toArray, List.set_cons_zero, List.set_cons_succ])
    refine wpAnyH_take (i := 13) (oi := _) (v := ?_) rfl (by kernel_rfl) (by kernel_rfl) (by kernel_rfl) (fun _ _ _ h => h) (Or.inl ⟨by rfl, ?_⟩) (by assumption) ?_
    rotate_left
    · intro wv hSw; (try dsimp only at hSw); go_simp; (try with_reducible rfl)
    (try simp only [List.getElem_toArray, List.getElem_cons_zero, List.getElem_cons_succ, Act.put, List.setIfInBounds_toArray, List.set_cons_zero, List.set_cons_succ])
    refine wpAnyH_take (i := 14) (oi := _) (v := ?_) rfl (by kernel_rfl) (by kernel_rfl) (by kernel_rfl) (fun _ _ _ h => h) (Or.inl ⟨by rfl, ?_⟩) (by assumption) ?_
    rotate_left
    · intro wv hSw; (try dsimp only at hSw); go_simp; (try with_reducible rfl)
    (try simp only [List.getElem_toArray, List.getElem_cons_zero, List.getElem_cons_succ, Act.put, List.setIfInBounds_toArray, List.set_cons_zero, List.set_cons_succ])
    refine wpAnyH_take (i := 15) (oi := _) (v := ?_) rfl (by kernel_rfl) (by kernel_rfl) (by kernel_rfl) (fun _ _ _ h => h) (Or.inl ⟨by rfl, ?_⟩) (by assumption) ?_
    rotate_left
    · intro wv hSw; (try dsimp only at hSw); have cc := hSw.1.missing; go_simp; (try with_reducible rfl)
    (try simp only [List.getElem_toArray, List.getElem_cons_zero, List.getElem_cons_succ, Act.put, List.setIfInBounds_toArray, List.set_cons_zero, List.set_cons_succ])
    refine wpAnyH_ready (rs := [16]) (by kernel_rfl) (by simp) ?_
    refine AllReadyH.cons (o := _) rfl (fun K hK => ?_) AllReadyH.nil
    go_simp
    go_at_call 101; refine (HC.out _ hHeld.1.rdm).mono ?_; rintro _ _ ⟨rfl, rfl⟩
    (try go_wp2_with fail)
    refine hK.out _ _ (hHeld) (fun hHeld => ?_)
    clear hK K
    (try simp only [List.getElem_toArray, List.getElem_cons_zero, List.getElem_cons_succ, Act.put, List.setIfInBounds_toArray, List.set_cons_zero, List.set_cons_succ])
    refine wpAnyH_take (i := 17) (oi := _) (v := ?_) rfl (by kernel_rfl) (by kernel_rfl) (by kernel_rfl) (fun _ _ _ h => h) (Or.inl ⟨by rfl, ?_⟩) (by assumption) ?_
    rotate_left
    · intro wv hSw; (try dsimp only at hSw); go_simp; (try with_reducible rfl)
    (try simp only [List.getElem_toArray, List.getElem_cons_zero, List.getElem_cons_succ, Act.put, List.setIfInBounds_toArray, List.set_cons_zero, List.set_cons_succ])
    refine wpAnyH_take (i := 18) (oi := _) (v := ?_) rfl (by kernel_rfl) (by kernel_rfl) (by kernel_rfl) (fun _ _ _ h => h) (Or.inl ⟨by rfl, ?_⟩) (by assumption) ?_
    rotate_left
    · intro wv hSw; (try dsimp only at hSw); go_simp; (try with_reducible rfl)
    (try simp only [List.getElem_toArray, List.getElem_cons_zero, List.getElem_cons_succ, Act.put, List.setIfInBounds_toArray, List.set_cons_zero, List.set_cons_succ])
    refine wpAnyH_take (i := 19) (oi := _) (v := ?_) rfl (by kernel_rfl) (by kernel_rfl) (by kernel_rfl) (fun _ _ _ h => h) (Or.inl ⟨by rfl, ?_⟩) (by assumption) ?_
    rotate_left
    · intro wv hSw; (try dsimp only at hSw); go_simp; (try with_reducible rfl)
    (try simp only [List.getElem_toArray, List.getElem_cons_zero, List.getElem_cons_succ, Act.put, List.setIfInBounds_toArray, List.set_cons_zero, List.set_cons_succ])
    refine wpAnyH_done (by kernel_rfl) ?_ _
    go_wp2_with fail
    go_ret
    exact ⟨by cases z <;> rfl, hHeld.2⟩
  · rw [decide_eq_false h0]
    have q : ((m.missing.length : Int) == m.writes.length) = false := beq_eq_false_iff_ne.2 (by omega)
    clear h0
    go_enter Tryz.func63, Tryz.ntmps63
    go_wp2_with fail
    refine wp_region_held_drew (S := fun w' => Rc w' T g m aw cw am cm ∧ Kept No w w') (by kernel_rfl) (hS0) (fun hHeld => ?_)
    refine wpAnyH_take (i := 0) (oi := _) (v := ?_) rfl (by kernel_rfl) (by kernel_rfl) (by kernel_rfl) (fun _ _ _ h => h) (Or.inl ⟨by rfl, ?_⟩) (by assumption) ?_
    rotate_left
    · intro wv hSw; (try dsimp only at hSw); go_simp; (try with_reducible rfl)
    (try simp only [List.getElem_toArray, List.getElem_cons_zero, Act.put, List.setIfInBounds_toArray, List.set_cons_zero, List.set_cons_succ])
    refine wpAnyH_take (i := 1) (oi := _) (v := ?_) rfl (by kernel_rfl) (by kernel_rfl) (by kernel_rfl) (fun _ _ _ h => h) (Or.inl ⟨by rfl, ?_⟩) (by assumption) ?_
    rotate_left
    · intro wv hSw; (try dsimp only at hSw); go_simp; (try with_reducible rfl)
    (try simp only [List.getElem_toArray, List.getElem_cons_zero, List.getElem_cons_succ, Act.put, List.setIfInBounds_toArray, List.set_cons_zero, List.set_cons_succ])
    refine wpAnyH_take (i := 2) (oi := _) (v := ?_) rfl (by kernel_rfl) (by kernel_rfl) (by kernel_rfl) (fun _ _ _ h => h) (Or.inl ⟨by rfl, ?_⟩) (by assumption) ?_
    rotate_left
    · intro wv hSw; (try dsimp only at hSw); go_simp; (try with_reducible rfl)
    (try simp only [List.getElem_toArray, List.getElem_cons_zero, List.getElem_cons_succ, Act.put, List.setIfInBounds_toArray, List.set_cons_zero, List.set_cons_succ])
    refine wpAnyH_take (i := 3) (oi := _) (v := ?_) rfl (by kernel_rfl) (by kernel_rfl) (by kernel_rfl) (fun _ _ _ h => h) (Or.inl ⟨by rfl, ?_⟩) (by assumption) ?_
    rotate_left
    · intro wv hSw; (try dsimp only at hSw); have cc := hSw.1.missing; go_simp; (try with_reducible rfl)
    (try simp only [List.getElem_toArray, List.getElem_cons_zero, List.getElem_cons_succ, Act.put, List.setIfInBounds_toArray, List.set_cons_zero, List.set_cons_succ])
    refine wpAnyH_take (i := 4) (oi := _) (v := ?_) rfl (by kernel_rfl) (by kernel_rfl) (by kernel_rfl) (fun _ _ _ h => h) (Or.inl ⟨by rfl, ?_⟩) (by assumption) ?_
    rotate_left
    · intro wv hSw; (try dsimp only at hSw); go_simp; (try with_reducible rfl)
    (try simp only [List.getElem_toArray, List.getElem_cons_zero, List.getElem_cons_succ, Act.put, List.setIfInBounds_toArray, List.set_cons_zero, List.set_cons_succ])
    refine wpAnyH_take (i := 5) (oi := _) (v := ?_) rfl (by kernel_rfl) (by kernel_rfl) (by kernel_rfl) (fun _ _ _ h => h) (Or.inl ⟨by rfl, ?_⟩) (by assumption) ?_
    rotate_left
    · intro wv hSw; (try dsimp only at hSw); go_simp; (try with_reducible rfl)
    (try simp only [List.getElem_toArray, List.getElem_cons_zero, List.getElem_cons_succ, Act.put, List.setIfInBounds_toArray, List.set_cons_zero, List.set_cons_succ])
    refine wpAnyH_take (i := 6) (oi := _) (v := ?_) rfl (by kernel_rfl) (by kernel_rfl) (by kernel_rfl) (fun _ _ _ h => h) (Or.inl ⟨by rfl, ?_⟩) (by assumption) ?_
    rotate_left
    · intro wv hSw; (try dsimp only at hSw); go_simp; (try with_reducible rfl)
    (try simp only [List.getElem_toArray, List.getElem_cons_zero, List.getElem_cons_succ, Act.put, List.setIfInBounds_toArray, List.set_cons_zero, List.set_cons_succ])
    refine wpAnyH_take (i := 7) (oi := _) (v := ?_) rfl (by kernel_rfl) (by kernel_rfl) (by kernel_rfl) (fun _ _ _ h => h) (Or.inl ⟨by rfl, ?_⟩) (by assumption) ?_
    rotate_left
    · intro wv hSw; (try dsimp only at hSw); go_simp; (try with_reducible rfl)
    (try simp only [List.getElem_toArray, List.getElem_cons_zero, List.getElem_cons_succ, Act.put, List.setIfInBounds_toArray, List.set_cons_zero, List.set_cons_succ])
    refine wpAnyH_take (i := 8) (oi := _) (v := ?_) rfl (by kernel_rfl) (by kernel_rfl) (by kernel_rfl) (fun _ _ _ h => h) (Or.inl ⟨by rfl, ?_⟩) (by assumption) ?_
    rotate_left
    · intro wv hSw; (try dsimp only at hSw); have cc := hSw.1.writes; go_simp; (try with_reducible rfl)
    (try simp only [List.getElem_toArray, List.getElem_cons_zero, List.getElem_cons_succ, Act.put, List.setIfInBounds_toArray, List.set_cons_zero, List.set_cons_succ])
    refine wpAnyH_take (i := 9) (oi := _) (v := ?_) rfl (by kernel_rfl) (by kernel_rfl) (by kernel_rfl) (fun _ _ _ h => h) (Or.inl ⟨by rfl, ?_⟩) (by assumption) ?_
    rotate_left
    · intro wv hSw; (try dsimp only at hSw); go_simp; (try with_reducible rfl)
    (try simp only [List.getElem_toArray, List.getElem_cons_zero, List.getElem_cons_succ, Act.put, List.setIfInBounds_toArray, List.set_cons_zero, List.set_cons_succ])
    refine wpAnyH_take (i := 10) (oi := _) (v := ?_) rfl (by kernel_rfl) (by kernel_rfl) (by kernel_rfl) (fun _ _ _ h => h) (Or.inl ⟨by rfl, ?_⟩) (by assumption) ?_
    rotate_left
    · intro wv hSw; (try dsimp only at hSw); go_simp; (try with_reducible rfl)
    (try simp only [List.getElem_toArray, List.getElem_cons_zero, List.getElem_cons_succ, Act.put, List.setIfInBounds_toArray, List.set_cons_zero, List.set_cons_succ])
    refine wpAnyH_take (i := 11) (oi := _) (v := ?_) rfl (by kernel_rfl) (by kernel_rfl) (by kernel_rfl) (fun _ _ _ h => h) (Or.inl ⟨by rfl, ?_⟩) (by assumption) ?_
    rotate_left
    · intro wv hSw; (try dsimp only at hSw); go_simp; (try with_reducible rfl)
    (try simp only [List.getElem_toArray, List.getElem_cons_zero, List.getElem_cons_succ, Act.put, List.setIfInBounds_toArray, List.set_cons_zero, List.set_cons_succ])
    refine wpAnyH_take (i := 12) (oi := _) (v := undef) rfl (by kernel_rfl) (by kernel_rfl) (by kernel_rfl) (fun _ _ _ h => h) (Or.inr ⟨by rfl, rfl⟩) (by assumption) ?_
    (try simp only [List.getElem_toArray, List.getElem_cons_zero, List.getElem_cons_succ, Act.put, List.setIfInBounds_toArray, List.set_cons_zero, List.set_cons_succ])
    refine wpAnyH_take (i := 13) (oi := _) (v := undef) rfl (by kernel_rfl) (by kernel_rfl) (by kernel_rfl) (fun _ _ _ h => h) (Or.inr ⟨by rfl, rfl⟩) (by assumption) ?_
    (try simp only [List.getElem_toArray, List.getElem_cons_zero, List.getElem_cons_succ, Act.put, List.setIfInBounds_toArray, List.set_cons_zero, List.set_cons_succ])
    refine wpAnyH_take (i := 14) (oi := _) (v := undef) rfl (by kernel_rfl) (by kernel_rfl) (by kernel_rfl) (fun _ _ _ h => h) (Or.inr ⟨by rfl, rfl⟩) (by assumption) ?_
    (try simp only [List.getElem_toArray, List.getElem_cons_zero, List.getElem_cons_succ, Act.put, List.setIfInBounds_toArray, List.set_cons_zero, List.set_cons_succ])
    refine wpAnyH_take (i := 15) (oi := _) (v := undef) rfl (by kernel_rfl) (by kernel_rfl) (by kernel_rfl) (fun _ _ _ h => h) (Or.inr ⟨by rfl, rfl⟩) (by assumption) ?_
    (try simp only [List.getElem_toArray, List.getElem_cons_zero, List.getElem_cons_succ, Act.put, List.setIfInBounds_toArray, List.set_cons_zero, List.set_cons_succ])
    refine wpAnyH_take (i := 16) (oi := _) (v := undef) rfl (by kernel_rfl) (by kernel_rfl) (by kernel_rfl) (fun _ _ _ h => h) (Or.inr ⟨by rfl, rfl⟩) (by assumption) ?_
    (try simp only [List.getElem_toArray, List.getElem_cons_zero, List.getElem_cons_succ, Act.put, List.setIfInBounds_toArray, List.set_cons_zero, List.set_cons_succ])
    refine wpAnyH_take (i := 17) (oi := _) (v := undef) rfl (by kernel_rfl) (by kernel_rfl) (by kernel_rfl) (fun _ _ _ h => h) (Or.inr ⟨by rfl, rfl⟩) (by assumption) ?_
    (try simp only [List.getElem_toArray, List.getElem_cons_zero, List.getElem_cons_succ, Act.put, List.setIfInBounds_toArray, List.set_cons_zero, List.set_cons_succ])
    refine wpAnyH_take (i := 18) (oi := _) (v := ?_) rfl (by kernel_rfl) (by kernel_rfl) (by kernel_rfl) (fun _ _ _ h => h) (Or.inl ⟨by rfl, ?_⟩) (by assumption) ?_
    rotate_left
    · intro wv hSw; (try dsimp only at hSw); go_simp; (try with_reducible rfl)
    (try simp only [List.getElem_toArray, List.getElem_cons_zero, List.getElem_cons_succ, Act.put, List.setIfInBounds_toArray, List.set_cons_zero, List.set_cons_succ])
    refine wpAnyH_take (i := 19) (oi := _) (v := ?_) rfl (by kernel_rfl) (by kernel_rfl) (by kernel_rfl) (fun _ _ _ h => h) (Or.inl ⟨by rfl, ?_⟩) (by assumption) ?_
    rotate_left
    · intro wv hSw; (try dsimp only at hSw); go_simp; (try with_reducible rfl)
    (try simp only [List.getElem_toArray, List.getElem_cons_zero, List.getElem_cons_succ, Act.put, List.setIfInBounds_toArray, List.set_cons_zero, List.set_cons_succ])
    refine wpAnyH_done (by kernel_rfl) ?_ _
    go_wp2_with fail
    go_ret
    exact ⟨by rfl, hHeld.2⟩
set_option maxRecDepth 100000 in
set_option maxHeartbeats 1000000 in
theorem rmay_key (h : Rc w T g m aw cw am cm) : Calls Tryz.prog 63 #[.pointer (some ⟨g, 0, none⟩), .int .i64 6] w fun e w' => e = .returned (.bool (keyOk m.key)) ∧ Kept No w w' := by
  have sg := h.key
  have HC := Lib.hid (name_calls (w := w) m.key h.wf.key)
  have l8 : (bcells m.key).length = 8 := by rw [bcells_length, h.wf.key]
  clear h
  generalize (if keyOk m.key = true then nameOf m.key else []) = N at *
  generalize keyOk m.key = b at *
  go_enter Tryz.func63, Tryz.ntmps63
  go_wp2_with (first
    | (with_reducible refine wpList_ld rfl 28 _ rfl Tryz.isAgg28 8 Tryz.sizeOf28 g 10 rfl (bcells m.key) l8 sg ?_)
    | (go_at_call 94; refine HC.out.mono ?_; rintro _ w2 ⟨rfl, k2⟩))
  go_ret
  exact ⟨rfl, k2⟩
set_option maxRecDepth 100000 in
set_option maxHeartbeats 1000000 in
theorem rmay_item (h : Rc w T g m aw cw am cm) : Calls Tryz.prog 63 #[.pointer (some ⟨g, 0, none⟩), .int .i64 7] w fun e w' => e = .returned (.bool (itemMay m.item)) ∧ Kept No w w' := by
  have sg := h.item
  have HC := Lib.hid (itemMay_calls (w := w) m.item h.wf.item h.sm.item)
  have l13 := itemv_length h.wf.item
  clear h
  go_enter Tryz.func63, Tryz.ntmps63
  go_wp2_with (first
    | (with_reducible refine wpList_ld rfl 32 _ rfl Tryz.isAgg32 13 Tryz.sizeOf32 g 18 rfl (itemv m.item) l13 sg ?_)
    | (go_at_call 21; refine HC.out.mono ?_; rintro _ w2 ⟨rfl, k2⟩))
  go_ret
  exact ⟨rfl, k2⟩
/-- May a field stand so, where it counts? -/
def rfMay (m : PRec) (f : Nat) : Bool :=
  if f = 0 then isCount m.n else if f = 1 then txMay m.tx else if f = 2 then regMay m.reg else if f = 3 then isSet m.members else if f = 4 then someMay m else if f = 5 then missMay m else if f = 6 then keyOk m.key else itemMay m.item
theorem rmayf_calls (h : Rc w T g m aw cw am cm) (f : Nat) (hf : f < 8) : Calls Tryz.prog 63 #[.pointer (some ⟨g, 0, none⟩), .int .i64 f] w fun e w' => e = .returned (.bool (rfMay m f)) ∧ Kept No w w' := by
  have hc : f = 0 ∨ f = 1 ∨ f = 2 ∨ f = 3 ∨ f = 4 ∨ f = 5 ∨ f = 6 ∨ f = 7 := by omega
  rcases hc with rfl | rfl | rfl | rfl | rfl | rfl | rfl | rfl
  · exact rmay_n h
  · exact rmay_tx h
  · exact rmay_reg h
  · exact rmay_members h
  · exact rmay_writes h
  · exact rmay_missing h
  · exact rmay_key h
  · exact rmay_item h

set_option maxRecDepth 100000 in
set_option maxHeartbeats 1000000 in
theorem rzero_tx (h : Rc w T g m aw cw am cm) : Calls Tryz.prog 64 #[.pointer (some ⟨g, 0, none⟩), .int .i64 1] w fun e w' => e = .returned (.bool (decide (m.tx = (0, 0, 0)))) ∧ Kept No w w' := by
  have sg := h.tx
  have hq := fun w => eqTxZ m.tx w
  have hg := eqGuard_tx
  clear h
  generalize decide (m.tx = (0, 0, 0)) = z at *
  go_enter Tryz.func64, Tryz.ntmps64
  go_wp2_with ((with_reducible refine wpList_ld rfl 24 _ rfl Tryz.isAgg24 3 Tryz.sizeOf24 g 2 rfl (txv m.tx) rfl sg ?_))
  go_ret
  exact ⟨rfl, Kept.refl _ _⟩
set_option maxRecDepth 100000 in
set_option maxHeartbeats 1000000 in
theorem rzero_reg (h : Rc w T g m aw cw am cm) : Calls Tryz.prog 64 #[.pointer (some ⟨g, 0, none⟩), .int .i64 2] w fun e w' => e = .returned (.bool (decide (m.reg = (0, 0)))) ∧ Kept No w w' := by
  have sg := h.reg
  have hq := fun w => eqRegZ m.reg w
  have hg := eqGuard_reg
  clear h
  generalize decide (m.reg = (0, 0)) = z at *
  go_enter Tryz.func64, Tryz.ntmps64
  go_wp2_with ((with_reducible refine wpList_ld rfl 26 _ rfl Tryz.isAgg26 2 Tryz.sizeOf26 g 5 rfl (regv m.reg) rfl sg ?_))
  go_ret
  exact ⟨rfl, Kept.refl _ _⟩
set_option maxRecDepth 100000 in
set_option maxHeartbeats 1000000 in
theorem rzero_key (h : Rc w T g m aw cw am cm) : Calls Tryz.prog 64 #[.pointer (some ⟨g, 0, none⟩), .int .i64 6] w fun e w' => e = .returned (.bool (m.key == zeros8)) ∧ Kept No w w' := by
  have sg := h.key
  have l8 : (bcells m.key).length = 8 := by rw [bcells_length, h.wf.key]
  have hq := fun w => eqKeyZ m.key h.wf.key w
  have hg := eqGuard_key
  clear h
  generalize (m.key == zeros8) = z at *
  go_enter Tryz.func64, Tryz.ntmps64
  go_wp2_with ((with_reducible refine wpList_ld rfl 28 _ rfl Tryz.isAgg28 8 Tryz.sizeOf28 g 10 rfl (bcells m.key) l8 sg ?_))
  go_ret
  exact ⟨rfl, Kept.refl _ _⟩
set_option maxRecDepth 100000 in
set_option maxHeartbeats 1000000 in
theorem rzero_item (h : Rc w T g m aw cw am cm) : Calls Tryz.prog 64 #[.pointer (some ⟨g, 0, none⟩), .int .i64 7] w fun e w' => e = .returned (.bool (decide (m.item = noItem))) ∧ Kept No w w' := by
  have sg := h.item
  have l13 := itemv_length h.wf.item
  have hq := fun w => eqItemZ m.item h.wf.item w
  have hg := eqGuard_item
  clear h
  generalize decide (m.item = noItem) = z at *
  go_enter Tryz.func64, Tryz.ntmps64
  go_wp2_with ((with_reducible refine wpList_ld rfl 32 _ rfl Tryz.isAgg32 13 Tryz.sizeOf32 g 18 rfl (itemv m.item) l13 sg ?_))
  go_ret
  exact ⟨rfl, Kept.refl _ _⟩
set_option maxRecDepth 100000 in
set_option maxHeartbeats 1000000 in
theorem rzero_n (h : Rc w T g m aw cw am cm) : Calls Tryz.prog 64 #[.pointer (some ⟨g, 0, none⟩), .int .i64 0] w fun e w' => e = .returned (.bool (decide (m.n = 0))) ∧ Kept No w w' := by
  have c0 := h.n_
  clear h
  have hd : decide (m.n = 0) = ((m.n : Int) == 0) := by
    rw [Bool.eq_iff_iff]; simp
  rw [hd]
  clear hd
  generalize hz : ((m.n : Int) == 0) = z at *
  go_enter Tryz.func64, Tryz.ntmps64
  go_wp2
  go_ret
  exact ⟨by first | rfl | (rw [← hz]; rfl), Kept.refl _ _⟩
set_option maxRecDepth 100000 in
set_option maxHeartbeats 1000000 in
theorem rzero_members (h : Rc w T g m aw cw am cm) : Calls Tryz.prog 64 #[.pointer (some ⟨g, 0, none⟩), .int .i64 3] w fun e w' => e = .returned (.bool (decide (m.members = 0))) ∧ Kept No w w' := by
  have c0 := h.members
  clear h
  have hd : decide (m.members = 0) = ((m.members : Int) == 0) := by
    rw [Bool.eq_iff_iff]; simp
  rw [hd]
  clear hd
  generalize hz : ((m.members : Int) == 0) = z at *
  go_enter Tryz.func64, Tryz.ntmps64
  go_wp2
  go_ret
  exact ⟨by first | rfl | (rw [← hz]; rfl), Kept.refl _ _⟩
set_option maxRecDepth 100000 in
set_option maxHeartbeats 1000000 in
theorem rzero_writes (h : Rc w T g m aw cw am cm) : Calls Tryz.prog 64 #[.pointer (some ⟨g, 0, none⟩), .int .i64 4] w fun e w' => e = .returned (.bool (decide (m.writes = []))) ∧ Kept No w w' := by
  have c0 := h.writes
  clear h
  have hd : decide (m.writes = []) = ((m.writes.length : Int) == 0) := by
    rw [Bool.eq_iff_iff]; simp [← List.length_eq_zero_iff]
  rw [hd]
  clear hd
  generalize hz : ((m.writes.length : Int) == 0) = z at *
  go_enter Tryz.func64, Tryz.ntmps64
  go_wp2
  go_ret
  exact ⟨by first | rfl | (rw [← hz]; rfl), Kept.refl _ _⟩
set_option maxRecDepth 100000 in
set_option maxHeartbeats 1000000 in
theorem rzero_missing (h : Rc w T g m aw cw am cm) : Calls Tryz.prog 64 #[.pointer (some ⟨g, 0, none⟩), .int .i64 5] w fun e w' => e = .returned (.bool (decide (m.missing = []))) ∧ Kept No w w' := by
  have c0 := h.missing
  clear h
  have hd : decide (m.missing = []) = ((m.missing.length : Int) == 0) := by
    rw [Bool.eq_iff_iff]; simp [← List.length_eq_zero_iff]
  rw [hd]
  clear hd
  generalize hz : ((m.missing.length : Int) == 0) = z at *
  go_enter Tryz.func64, Tryz.ntmps64
  go_wp2
  go_ret
  exact ⟨by first | rfl | (rw [← hz]; rfl), Kept.refl _ _⟩
/-- Is a field zero? -/
def rfZero (m : PRec) (f : Nat) : Bool :=
  if f = 0 then decide (m.n = 0) else if f = 1 then decide (m.tx = (0, 0, 0)) else if f = 2 then decide (m.reg = (0, 0)) else if f = 3 then decide (m.members = 0) else if f = 4 then decide (m.writes = []) else if f = 5 then decide (m.missing = []) else if f = 6 then m.key == zeros8 else decide (m.item = noItem)
theorem rzerof_calls (h : Rc w T g m aw cw am cm) (f : Nat) (hf : f < 8) : Calls Tryz.prog 64 #[.pointer (some ⟨g, 0, none⟩), .int .i64 f] w fun e w' => e = .returned (.bool (rfZero m f)) ∧ Kept No w w' := by
  have hc : f = 0 ∨ f = 1 ∨ f = 2 ∨ f = 3 ∨ f = 4 ∨ f = 5 ∨ f = 6 ∨ f = 7 := by omega
  rcases hc with rfl | rfl | rfl | rfl | rfl | rfl | rfl | rfl
  · exact rzero_n h
  · exact rzero_tx h
  · exact rzero_reg h
  · exact rzero_members h
  · exact rzero_writes h
  · exact rzero_missing h
  · exact rzero_key h
  · exact rzero_item h

/-- A field of a record, as it must be. -/
def rfOk (m : PRec) (f : Nat) : Bool := if f ∈ rfx m.kind then rfMay m f else rfZero m f
theorem rMay_eq (m : PRec) : rMay m = ((List.range 8).all (rfOk m) && decide (rfx m.kind ≠ [])) := by
  rcases rdx_cases m.kind with h | h | h | h | h | h | h | h
  · obtain ⟨h1, h2, h3, h4, h5, h6, h7⟩ := rfx_none h
    rw [rfx_nil h]
    unfold rMay
    rw [if_neg h1, if_neg h2, if_neg (by omega), if_neg h5, if_neg h7]
    simp
  all_goals
    rw [Bool.eq_iff_iff]
    simp [rMay, rfOk, rfx, rfMay, rfZero, h, List.range_succ, and_assoc]
  all_goals (constructor <;> (intro hh; simp_all))
end
end Go.Proofs.YtjfmidcaekhhgaaGreatDoor
