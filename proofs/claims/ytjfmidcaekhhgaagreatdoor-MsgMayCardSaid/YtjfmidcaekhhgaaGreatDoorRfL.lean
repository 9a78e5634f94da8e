/- The document's field of a message: walks. Printed by gen_rfl.py. -/
import Derived.Test.YtjfmidcaekhhgaaGreatDoorRfK
namespace Go.Proofs.YtjfmidcaekhhgaaGreatDoor
open Go.RowKit Go.PM
section
variable {w : World} {m : PMsg} {a : Option Addr} {c : Nat}

set_option maxRecDepth 100000 in
set_option maxHeartbeats 400000 in
theorem rfield_tx (h : Ms (w.alloc (.cells (msgv m a c).toArray 35)) 35 w.heap.size m a c) : Calls Tryz.prog 52 #[.agg (msgv m a c).toArray, .int .u8 116] w fun e w' => e = .returned (.bool (txMay m.tx)) ∧ Kept No (w.alloc (.cells (msgv m a c).toArray 35)) w' := by
  have sg := h.tx
  have HC := Lib.hid (refTxMay_calls (w := (w.alloc (.cells (msgv m a c).toArray 35))) m.tx h.wf.tx)
  clear h
  go_enter Tryz.func52, Tryz.ntmps52
  go_wp2_with (first
    | (with_reducible refine wpList_ld rfl 24 _ rfl Tryz.isAgg24 3 Tryz.sizeOf24 w.heap.size 1 rfl (txv m.tx) rfl sg ?_)
    | (go_at_call 66; refine HC.out.mono ?_; rintro _ w2 ⟨rfl, k2⟩))
  go_ret
  exact ⟨rfl, k2⟩
set_option maxRecDepth 100000 in
set_option maxHeartbeats 400000 in
theorem rfield_time (h : Ms (w.alloc (.cells (msgv m a c).toArray 35)) 35 w.heap.size m a c) : Calls Tryz.prog 52 #[.agg (msgv m a c).toArray, .int .u8 99] w fun e w' => e = .returned (.bool (decide (m.time ≤ maxC))) ∧ Kept No (w.alloc (.cells (msgv m a c).toArray 35)) w' := by
  have c0 := h.time
  have t0 := h.wf.time
  clear h
  by_cases h1 : m.time ≤ maxC
  · have h1' : ((m.time : Nat) : Int) ≤ 2147483647 := by unfold maxC at h1; omega
    rw [decide_eq_true h1]
    clear h1
    go_enter Tryz.func52, Tryz.ntmps52
    go_wp2
    go_ret
    exact ⟨rfl, Kept.refl _ _⟩
  · have h1' := decide_eq_false (show ¬ ((m.time : Nat) : Int) ≤ 2147483647 by unfold maxC at h1; omega)
    rw [decide_eq_false h1]
    clear h1
    go_enter Tryz.func52, Tryz.ntmps52
    go_wp2
    go_ret
    exact ⟨rfl, Kept.refl _ _⟩
set_option maxRecDepth 100000 in
set_option maxHeartbeats 400000 in
theorem rfield_no (h : Ms (w.alloc (.cells (msgv m a c).toArray 35)) 35 w.heap.size m a c) : Calls Tryz.prog 52 #[.agg (msgv m a c).toArray, .int .u8 110] w fun e w' => e = .returned (.bool (decide (m.no ≤ maxC))) ∧ Kept No (w.alloc (.cells (msgv m a c).toArray 35)) w' := by
  have c0 := h.no_
  have t0 := h.wf.no
  clear h
  by_cases h1 : m.no ≤ maxC
  · have h1' : ((m.no : Nat) : Int) ≤ 2147483647 := by unfold maxC at h1; omega
    rw [decide_eq_true h1]
    clear h1
    go_enter Tryz.func52, Tryz.ntmps52
    go_wp2
    go_ret
    exact ⟨rfl, Kept.refl _ _⟩
  · have h1' := decide_eq_false (show ¬ ((m.no : Nat) : Int) ≤ 2147483647 by unfold maxC at h1; omega)
    rw [decide_eq_false h1]
    clear h1
    go_enter Tryz.func52, Tryz.ntmps52
    go_wp2
    go_ret
    exact ⟨rfl, Kept.refl _ _⟩
set_option maxRecDepth 100000 in
set_option maxHeartbeats 400000 in
theorem rfield_key (h : Ms (w.alloc (.cells (msgv m a c).toArray 35)) 35 w.heap.size m a c) : Calls Tryz.prog 52 #[.agg (msgv m a c).toArray, .int .u8 107] w fun e w' => e = .returned (.bool (keyOk m.key)) ∧ Kept No (w.alloc (.cells (msgv m a c).toArray 35)) w' := by
  have sg := h.key
  have HC := Lib.hid (refKeyMay_calls (w := (w.alloc (.cells (msgv m a c).toArray 35))) m.key h.wf.key)
  have l8 : (bcells m.key).length = 8 := by rw [bcells_length, h.wf.key]
  clear h
  go_enter Tryz.func52, Tryz.ntmps52
  go_wp2_with (first
    | (with_reducible refine wpList_ld rfl 28 _ rfl Tryz.isAgg28 8 Tryz.sizeOf28 w.heap.size 7 rfl (bcells m.key) l8 sg ?_)
    | (go_at_call 57; refine HC.out.mono ?_; rintro _ w2 ⟨rfl, k2⟩))
  go_ret
  exact ⟨rfl, k2⟩
set_option maxRecDepth 100000 in
set_option maxHeartbeats 400000 in
theorem rfield_item (h : Ms (w.alloc (.cells (msgv m a c).toArray 35)) 35 w.heap.size m a c) : Calls Tryz.prog 52 #[.agg (msgv m a c).toArray, .int .u8 105] w fun e w' => e = .returned (.bool (itemMay m.item)) ∧ Kept No (w.alloc (.cells (msgv m a c).toArray 35)) w' := by
  have sg := h.item
  have HC := Lib.hid (refItemMay_calls (w := (w.alloc (.cells (msgv m a c).toArray 35))) m.item h.wf.item h.sm.item)
  have l13 := itemv_length h.wf.item
  clear h
  go_enter Tryz.func52, Tryz.ntmps52
  go_wp2_with (first
    | (with_reducible refine wpList_ld rfl 32 _ rfl Tryz.isAgg32 13 Tryz.sizeOf32 w.heap.size 19 rfl (itemv m.item) l13 sg ?_)
    | (go_at_call 22; refine HC.out.mono ?_; rintro _ w2 ⟨rfl, k2⟩))
  go_ret
  exact ⟨rfl, k2⟩
set_option maxRecDepth 100000 in
set_option maxHeartbeats 400000 in
theorem rfield_writes (h : Ms (w.alloc (.cells (msgv m a c).toArray 35)) 35 w.heap.size m a c) : Calls Tryz.prog 52 #[.agg (msgv m a c).toArray, .int .u8 108] w fun e w' => e = .returned (.bool (writesMay m.writes)) ∧ Kept No (w.alloc (.cells (msgv m a c).toArray 35)) w' := by
  have c0 := h.writes
  have HC := Lib.hid (refWritesMay_calls (w := (w.alloc (.cells (msgv m a c).toArray 35))) m.writes m.writes.length rfl a c h.wf.writes h.sm.each h.rd h.sm.many)
  clear h
  go_enter Tryz.func52, Tryz.ntmps52
  go_wp2_with (go_at_call 24; refine HC.out.mono ?_; rintro _ w2 ⟨rfl, k2⟩)
  go_ret
  exact ⟨rfl, k2⟩
set_option maxRecDepth 100000 in
set_option maxHeartbeats 400000 in
theorem rfield_mode (h : Ms (w.alloc (.cells (msgv m a c).toArray 35)) 35 w.heap.size m a c) : Calls Tryz.prog 52 #[.agg (msgv m a c).toArray, .int .u8 109] w fun e w' => e = .returned (.bool (decide (m.mode = 1 ∨ m.mode = 2))) ∧ Kept No (w.alloc (.cells (msgv m a c).toArray 35)) w' := by
  have c0 := h.mode
  clear h
  by_cases h2 : m.mode = 1
  · have q2 : ((m.mode : Int) == 1) = true := beq_iff_eq.2 (by omega)
    rw [decide_eq_true (show m.mode = 1 ∨ m.mode = 2 from .inl h2)]
    clear h2
    go_enter Tryz.func52, Tryz.ntmps52
    go_wp2
    go_ret
    exact ⟨by rfl, Kept.refl _ _⟩
  · have q2 : ((m.mode : Int) == 1) = false := beq_eq_false_iff_ne.2 (by omega)
    have hd : decide (m.mode = 1 ∨ m.mode = 2) = ((m.mode : Int) == 2) := by
      rw [Bool.eq_iff_iff]; simp; omega
    rw [hd]
    generalize hz : ((m.mode : Int) == 2) = z at *
    clear h2 hd
    go_enter Tryz.func52, Tryz.ntmps52
    go_wp2
    go_ret
    exact ⟨by rfl, Kept.refl _ _⟩
set_option maxRecDepth 100000 in
set_option maxHeartbeats 400000 in
theorem rfield_why (h : Ms (w.alloc (.cells (msgv m a c).toArray 35)) 35 w.heap.size m a c) : Calls Tryz.prog 52 #[.agg (msgv m a c).toArray, .int .u8 119] w fun e w' => e = .returned (.bool (decide (1 ≤ m.why ∧ m.why ≤ 17))) ∧ Kept No (w.alloc (.cells (msgv m a c).toArray 35)) w' := by
  have c0 := h.why
  have t0 := h.wf.why
  have t1 : ((m.why : Nat) : Int) < 256 := by omega
  clear h
  by_cases h2 : 1 ≤ m.why
  · have q2 : (1 : Int) ≤ m.why := by omega
    have hd : decide (1 ≤ m.why ∧ m.why ≤ 17) = decide (((m.why : Nat) : Int) ≤ 17) := by
      rw [Bool.eq_iff_iff]; simp; omega
    rw [hd]
    generalize hz : decide (((m.why : Nat) : Int) ≤ 17) = z at *
    clear h2 hd
    go_enter Tryz.func52, Tryz.ntmps52
    go_wp2
    go_ret
    exact ⟨by rw [← hz]; rfl, Kept.refl _ _⟩
  · have q2 := decide_eq_false (show ¬ (1 : Int) ≤ m.why by omega)
    rw [decide_eq_false (show ¬ (1 ≤ m.why ∧ m.why ≤ 17) by omega)]
    clear h2
    go_enter Tryz.func52, Tryz.ntmps52
    go_wp2
    go_ret
    exact ⟨by rfl, Kept.refl _ _⟩
set_option maxRecDepth 100000 in
set_option maxHeartbeats 400000 in
theorem rfield_yes (h : Ms (w.alloc (.cells (msgv m a c).toArray 35)) 35 w.heap.size m a c) : Calls Tryz.prog 52 #[.agg (msgv m a c).toArray, .int .u8 121] w fun e w' => e = .returned (.bool (decide (m.yes = 1 ∨ m.yes = 2 ∨ m.yes = 3 ∧ m.kind = 6))) ∧ Kept No (w.alloc (.cells (msgv m a c).toArray 35)) w' := by
  have c0 := h.yes
  have c1 := h.kind
  clear h
  by_cases h1 : m.yes = 1
  · have q1 : ((m.yes : Int) == 1) = true := beq_iff_eq.2 (by omega)
    rw [decide_eq_true (show m.yes = 1 ∨ m.yes = 2 ∨ m.yes = 3 ∧ m.kind = 6 from .inl h1)]
    clear h1
    go_enter Tryz.func52, Tryz.ntmps52
    go_wp2
    go_ret
    exact ⟨by rfl, Kept.refl _ _⟩
  have q1 : ((m.yes : Int) == 1) = false := beq_eq_false_iff_ne.2 (by omega)
  by_cases h2 : m.yes = 2
  · have q2 : ((m.yes : Int) == 2) = true := beq_iff_eq.2 (by omega)
    rw [decide_eq_true (show m.yes = 1 ∨ m.yes = 2 ∨ m.yes = 3 ∧ m.kind = 6 from .inr (.inl h2))]
    clear h1 h2
    go_enter Tryz.func52, Tryz.ntmps52
    go_wp2
    go_ret
    exact ⟨by rfl, Kept.refl _ _⟩
  have q2 : ((m.yes : Int) == 2) = false := beq_eq_false_iff_ne.2 (by omega)
  by_cases h3 : m.yes = 3
  · have q3 : ((m.yes : Int) == 3) = true := beq_iff_eq.2 (by omega)
    have hd : decide (m.yes = 1 ∨ m.yes = 2 ∨ m.yes = 3 ∧ m.kind = 6) = ((m.kind : Int) == 6) := by
      rw [Bool.eq_iff_iff]; simp; omega
    rw [hd]
    generalize hz : ((m.kind : Int) == 6) = z at *
    clear h1 h2 h3 hd
    go_enter Tryz.func52, Tryz.ntmps52
    go_wp2
    go_ret
    exact ⟨by rfl, Kept.refl _ _⟩
  · have q3 : ((m.yes : Int) == 3) = false := beq_eq_false_iff_ne.2 (by omega)
    rw [decide_eq_false (show ¬ (m.yes = 1 ∨ m.yes = 2 ∨ m.yes = 3 ∧ m.kind = 6) by omega)]
    clear h1 h2 h3
    go_enter Tryz.func52, Tryz.ntmps52
    go_wp2
    go_ret
    exact ⟨by rfl, Kept.refl _ _⟩
set_option maxRecDepth 100000 in
set_option maxHeartbeats 400000 in
theorem rfield_reg (h : Ms (w.alloc (.cells (msgv m a c).toArray 35)) 35 w.heap.size m a c) : Calls Tryz.prog 52 #[.agg (msgv m a c).toArray, .int .u8 103] w fun e w' => e = .returned (.bool (regMay m.reg || decide (m.reg = (0, 0)) && decide (m.kind = 1 ∨ m.kind = 5))) ∧ Kept No (w.alloc (.cells (msgv m a c).toArray 35)) w' := by
  have sg := h.reg
  have c0 := h.kind
  have HC := Lib.hid (refRegMay_calls (w := (w.alloc (.cells (msgv m a c).toArray 35))) m.reg h.wf.reg)
  have H := Lib.hid (fun w' k => (h.keptNo (w' := w') k).reg)
  have hq := fun w => eqRegZ m.reg w
  have hg := eqGuard_reg
  clear h
  obtain ⟨F, hF⟩ : ∃ F, decide (m.kind = 1 ∨ m.kind = 5) = F := ⟨_, rfl⟩
  rw [hF]
  have key : ∀ q1 q5 : Bool, ((m.kind : Int) == 1) = q1 → ((m.kind : Int) == 5) = q5 → F = (q1 || q5) := fun q1 q5 h1 h5 => by
    subst h1; subst h5; rw [← hF, Bool.eq_iff_iff]; simp; omega
  clear hF
  have HKEY := Lib.hid key
  clear key
  generalize hz : decide (m.reg = (0, 0)) = z at *
  cases e1 : regMay m.reg <;> cases q1 : ((m.kind : Int) == 1) <;> cases q5 : ((m.kind : Int) == 5) <;> rw [e1] at HC <;> have HF := HKEY.out _ _ q1 q5 <;> subst HF <;> clear HKEY e1 hz
  all_goals
    go_enter Tryz.func52, Tryz.ntmps52
    go_wp2_with (first
      | (with_reducible refine wpList_ld rfl 26 _ rfl Tryz.isAgg26 2 Tryz.sizeOf26 w.heap.size 5 rfl (regv m.reg) rfl sg ?_)
      | (go_at_call 67; refine HC.out.mono ?_; rintro _ w2 ⟨rfl, k2⟩; have sg2 := H.out _ k2)
      | (with_reducible refine wpList_ld rfl 26 _ rfl Tryz.isAgg26 2 Tryz.sizeOf26 w.heap.size 5 rfl (regv m.reg) rfl sg2 ?_))
    go_ret
    exact ⟨by cases z <;> rfl, k2⟩

theorem refField_calls (f : Fd) (hm : m.Wf) (hs : m.Sm) (hr : Rd w a (pwsv m.writes)) (hat : ∀ b, At a b → b < w.heap.size) : Calls Tryz.prog 52 #[.agg (msgv m a c).toArray, .int .u8 f.ch.toNat] w fun e w' => e = .returned (.bool (f.may m)) ∧ Kept No w w' := by
  have k1 := (Kept.refl No w).alloc (.cells (msgv m a c).toArray 35)
  have h : Ms (w.alloc (.cells (msgv m a c).toArray 35)) 35 w.heap.size m a c := ⟨Blk.new w _ _, hr.keptNo k1, fun b hb => k1.lt (hat b hb), hm, hs⟩
  have fin : ∀ e w', (e = .returned (.bool (f.may m)) ∧ Kept No (w.alloc (.cells (msgv m a c).toArray 35)) w') → (e = Ending.returned (.bool (f.may m)) ∧ Kept No w w') := fun e w' ⟨h1, h2⟩ => ⟨h1, k1.trans h2 fun _ _ h => h⟩
  cases f
  · exact (rfield_tx h).mono fin
  · exact (rfield_time h).mono fin
  · exact (rfield_reg h).mono fin
  · exact (rfield_key h).mono fin
  · exact (rfield_mode h).mono fin
  · exact (rfield_no h).mono fin
  · exact (rfield_why h).mono fin
  · exact (rfield_yes h).mono fin
  · exact (rfield_item h).mono fin
  · exact (rfield_writes h).mono fin
end
end Go.Proofs.YtjfmidcaekhhgaaGreatDoor
