/- Messages in memory; the fields of a kind. Which fields of a message may be, or are zero, as walks. Printed by gen_msh.py. Which messages may be, as a walk. -/
import Derived.Test.YtjfmidcaekhhgaaGreatDoorMsF
namespace Go.Proofs.YtjfmidcaekhhgaaGreatDoor
open Go.RowKit Go.PM

theorem txv_length (x : PTx) : (txv x).length = 3 := rfl
theorem regv_length (x : PReg) : (regv x).length = 2 := rfl
/-- A message as the machine holds it. -/
def msgv (m : PMsg) (a : Option Addr) (c : Nat) : List Value :=
  .int .u8 m.kind :: (txv m.tx ++ (.int .u32 m.time :: (regv m.reg ++ (bcells m.key ++ (.int .u8 m.mode :: .int .u32 m.no :: .int .u8 m.why :: .int .u8 m.yes :: (itemv m.item ++ [.slice a m.writes.length c]))))))
/-- A message's parts are no longer than a machine holds. -/
structure PMsg.Sm (m : PMsg) : Prop where
  item : m.item.2.1.length ≤ 140737488355328
  each : ∀ x ∈ m.writes, x.2.2.1.length ≤ 140737488355328
  many : m.writes.length ≤ 140737488355328
theorem msgv_length {m : PMsg} (h : m.Wf) (a : Option Addr) (c : Nat) : (msgv m a c).length = 33 := by
  simp [msgv, txv, regv, h.key, itemv_length h.item]
theorem msgv_one (m : PMsg) (a : Option Addr) (c : Nat) : ∀ u ∈ msgv m a c, u.oneCell' = true := by
  intro u hu
  simp only [msgv, txv, regv, List.mem_cons, List.mem_append, List.not_mem_nil, or_false] at hu
  rcases hu with rfl | (rfl | rfl | rfl) | rfl | (rfl | rfl) | h | rfl | rfl | rfl | rfl | h | rfl
  all_goals first | rfl | exact bcells_one _ u h | exact itemv_one _ u h
/-- A message in a block. -/
structure Ms (w : World) (T : TypeId) (g : Nat) (m : PMsg) (a : Option Addr) (c : Nat) : Prop where
  box : Blk w g T (msgv m a c)
  rd : Rd w a (pwsv m.writes)
  lt : ∀ b, At a b → b < w.heap.size
  wf : m.Wf
  sm : m.Sm
section
variable {w w' : World} {T : TypeId} {g : Nat} {m : PMsg} {a : Option Addr} {c : Nat}
theorem Ms.keptNo (h : Ms w T g m a c) (k : Kept No w w') : Ms w' T g m a c := ⟨h.box.kept k (fun h => h), h.rd.keptNo k, fun b hb => k.lt (h.lt b hb), h.wf, h.sm⟩
theorem Ms.kept {S : Nat → Prop} (h : Ms w T g m a c) (k : Kept S w w') (hg : ¬ S g) (ha : ∀ b, At a b → ¬ S b) : Ms w' T g m a c := ⟨h.box.kept k hg, h.rd.kept k ha, fun b hb => k.lt (h.lt b hb), h.wf, h.sm⟩
theorem Ms.kind (h : Ms w T g m a c) : w.cell? ⟨g, 0, none⟩ = some (.int .u8 m.kind) := h.box.cell 0
theorem Ms.time (h : Ms w T g m a c) : w.cell? ⟨g, 4, none⟩ = some (.int .u32 m.time) := h.box.cell 4
theorem Ms.cell15 (h : Ms w T g m a c) (k : Nat) : w.cell? ⟨g, 15 + k, none⟩ = (.int .u8 m.mode :: .int .u32 m.no :: .int .u8 m.why :: .int .u8 m.yes :: (itemv m.item ++ [.slice a m.writes.length c]) : List Value)[k]? := by
  rw [h.box.cell]
  have hk : (bcells m.key).length = 8 := by rw [bcells_length, h.wf.key]
  rw [show 15 + k = (k + 8 + 2 + 1 + 3) + 1 by omega]
  simp only [msgv, List.getElem?_cons_succ]
  rw [List.getElem?_append_right (by rw [txv_length]; omega), txv_length, show k + 8 + 2 + 1 + 3 - 3 = (k + 8 + 2) + 1 by omega, List.getElem?_cons_succ,
    List.getElem?_append_right (by rw [regv_length]; omega), regv_length, List.getElem?_append_right (by omega), hk]
  congr 1
theorem Ms.mode (h : Ms w T g m a c) : w.cell? ⟨g, 15, none⟩ = some (.int .u8 m.mode) := h.cell15 0
theorem Ms.no_ (h : Ms w T g m a c) : w.cell? ⟨g, 16, none⟩ = some (.int .u32 m.no) := h.cell15 1
theorem Ms.why (h : Ms w T g m a c) : w.cell? ⟨g, 17, none⟩ = some (.int .u8 m.why) := h.cell15 2
theorem Ms.yes (h : Ms w T g m a c) : w.cell? ⟨g, 18, none⟩ = some (.int .u8 m.yes) := h.cell15 3
theorem Ms.writes (h : Ms w T g m a c) : w.cell? ⟨g, 32, none⟩ = some (.slice a m.writes.length c) := by
  have := h.cell15 17
  rw [this]
  have hi := itemv_length h.wf.item
  rw [show (17 : Nat) = 13 + 1 + 1 + 1 + 1 by omega]
  simp only [List.getElem?_cons_succ]
  rw [List.getElem?_append_right (by omega), hi]
  rfl
theorem Ms.tx (h : Ms w T g m a c) : Seg w g 1 (txv m.tx) := h.box.seg 1 _ (by simp [msgv, txv])
theorem Ms.reg (h : Ms w T g m a c) : Seg w g 5 (regv m.reg) := h.box.seg 5 _ (by simp [msgv, txv, regv])
theorem Ms.key (h : Ms w T g m a c) : Seg w g 7 (bcells m.key) := h.box.seg 7 _ (by simp [msgv, txv, regv])
theorem Ms.item (h : Ms w T g m a c) : Seg w g 19 (itemv m.item) := by
  have hk : (bcells m.key).length = 8 := by rw [bcells_length, h.wf.key]
  have hi := itemv_length h.wf.item
  have hd : List.drop 12 (bcells m.key) = [] := List.drop_of_length_le (by omega)
  exact h.box.seg 19 _ (by simp [msgv, txv, regv, hi, hk, hd, List.drop_append])
end

/-- A field's number. -/
def Fd.n : Fd → Nat
  | .tx => 0 | .time => 1 | .reg => 2 | .key => 3 | .mode => 4 | .no => 5 | .why => 6 | .yes => 7 | .item => 8 | .writes => 9
def Fd.num (f : Fd) : Nat := 2 ^ f.n
def mask (k : Nat) : Nat :=
  if k = 1 then 63 else if k = 2 then 317 else if k = 3 then 97 else if k = 4 then 5 else if k = 5 then 517 else if k = 6 then 133 else if k = 7 then 129 else if k = 8 ∨ k = 9 then 1 else if k = 10 then 265 else if k = 11 then 9 else 0
theorem mask_none {k : Nat} (h : idx k = []) : mask k = 0 := by
  have hk : k ≠ 1 ∧ k ≠ 2 ∧ k ≠ 3 ∧ k ≠ 4 ∧ k ≠ 5 ∧ k ≠ 6 ∧ k ≠ 7 ∧ k ≠ 8 ∧ k ≠ 9 ∧ k ≠ 10 ∧ k ≠ 11 := by
    refine ⟨?_, ?_, ?_, ?_, ?_, ?_, ?_, ?_, ?_, ?_, ?_⟩ <;> (rintro rfl; cases h)
  unfold mask
  obtain ⟨h1, h2, h3, h4, h5, h6, h7, h8, h9, h10, h11⟩ := hk
  rw [if_neg h1, if_neg h2, if_neg h3, if_neg h4, if_neg h5, if_neg h6, if_neg h7, if_neg (by omega), if_neg h10, if_neg h11]
theorem mask_lt (k : Nat) : mask k < 1024 := by
  rcases idx_cases k with h | h | h | h | h | h | h | h | h | h | h | h
  · rw [mask_none h]; decide
  all_goals subst h; decide
theorem idx_zero (k : Nat) : idx k = [] ↔ mask k = 0 := by
  rcases idx_cases k with h | h | h | h | h | h | h | h | h | h | h | h
  · exact ⟨mask_none, fun _ => h⟩
  all_goals subst h; decide
theorem mask_bit (k : Nat) (f : Fd) : (mask k).testBit f.n = decide (f ∈ idx k) := by
  rcases idx_cases k with h | h | h | h | h | h | h | h | h | h | h | h
  · rw [mask_none h, h]; simp
  all_goals subst h; cases f <;> decide
/-- A mask and a field. -/
theorem mask_and (k : Nat) (f : Fd) : bits BinOp.and IntKind.u64 (mask k : Nat) (f.num : Nat) = ((if f ∈ idx k then f.num else 0 : Nat) : Int) := by
  have hf : f.num < 18446744073709551616 := by cases f <;> decide
  have h := bits_and_u64_nat (mask k) f.num (by have := mask_lt k; omega) hf
  refine h.trans ?_
  congr 1
  rcases idx_cases k with h | h | h | h | h | h | h | h | h | h | h | h
  · rw [mask_none h, h]; simp
  all_goals subst h; cases f <;> decide

section
variable {w : World}
set_option maxRecDepth 100000 in
set_option maxHeartbeats 400000 in
theorem fields_calls (k : Nat) (hk : k < 256) :
    Calls Tryz.prog 48 #[.int .u8 k] w fun e w' => e = .returned (.int .u64 (mask k)) ∧ w = w' := by
  rcases idx_cases k with h | h | h | h | h | h | h | h | h | h | h | h
  · have hk : k ≠ 1 ∧ k ≠ 2 ∧ k ≠ 3 ∧ k ≠ 4 ∧ k ≠ 5 ∧ k ≠ 6 ∧ k ≠ 7 ∧ k ≠ 8 ∧ k ≠ 9 ∧ k ≠ 10 ∧ k ≠ 11 := by
      refine ⟨?_, ?_, ?_, ?_, ?_, ?_, ?_, ?_, ?_, ?_, ?_⟩ <;> (rintro rfl; cases h)
    obtain ⟨h1, h2, h3, h4, h5, h6, h7, h8, h9, h10, h11⟩ := hk
    have q := mask_none h
    rw [q]
    have e1 : ((k : Int) == 1) = false := beq_eq_false_iff_ne.2 (by omega)
    have e2 : ((k : Int) == 2) = false := beq_eq_false_iff_ne.2 (by omega)
    have e3 : ((k : Int) == 3) = false := beq_eq_false_iff_ne.2 (by omega)
    have e4 : ((k : Int) == 4) = false := beq_eq_false_iff_ne.2 (by omega)
    have e5 : ((k : Int) == 5) = false := beq_eq_false_iff_ne.2 (by omega)
    have e6 : ((k : Int) == 6) = false := beq_eq_false_iff_ne.2 (by omega)
    have e7 : ((k : Int) == 7) = false := beq_eq_false_iff_ne.2 (by omega)
    have e8 : ((k : Int) == 8) = false := beq_eq_false_iff_ne.2 (by omega)
    have e9 : ((k : Int) == 9) = false := beq_eq_false_iff_ne.2 (by omega)
    have e10 : ((k : Int) == 10) = false := beq_eq_false_iff_ne.2 (by omega)
    have e11 : ((k : Int) == 11) = false := beq_eq_false_iff_ne.2 (by omega)
    clear q h h1 h2 h3 h4 h5 h6 h7 h8 h9 h10 h11
    go_enter Tryz.func48, Tryz.ntmps48
    go_wp2
    go_ret
    exact ⟨rfl, rfl⟩
  all_goals
    subst h
    go_enter Tryz.func48, Tryz.ntmps48
    go_wp2
    go_ret
    exact ⟨rfl, rfl⟩
end
end Go.Proofs.YtjfmidcaekhhgaaGreatDoor

namespace Go.Proofs.YtjfmidcaekhhgaaGreatDoor
open Go.RowKit Go.PM

theorem eqGuard_tx : Tryz.prog.eqGuardType Tryz.prog.depth 24 = false := by kernel_rfl
theorem eqGuard_reg : Tryz.prog.eqGuardType Tryz.prog.depth 26 = false := by kernel_rfl
theorem eqGuard_item : Tryz.prog.eqGuardType Tryz.prog.depth 32 = false := by kernel_rfl
theorem eqTxZ (x : PTx) (w : World) : (binOp .eql 24 (.agg (txv x).toArray) (.agg #[.int .u8 0, .int .u32 0, .int .u32 0])).run Tryz.prog w = .ok (.bool (decide (x = (0, 0, 0)))) w := eqlTx x (0, 0, 0) w
theorem eqRegZ (x : PReg) (w : World) : (binOp .eql 26 (.agg (regv x).toArray) (.agg #[.int .u32 0, .int .u32 0])).run Tryz.prog w = .ok (.bool (decide (x = (0, 0)))) w := eqlReg x (0, 0) w
theorem eqKeyZ (l : List UInt8) (hl : l.length = 8) (w : World) : (binOp .eql 28 (.agg (bcells l).toArray) (.agg #[.int .u8 0, .int .u8 0, .int .u8 0, .int .u8 0, .int .u8 0, .int .u8 0, .int .u8 0, .int .u8 0])).run Tryz.prog w = .ok (.bool (l == zeros8)) w := eqlKey l zeros8 hl rfl w
theorem noItem_wf : wfItem noItem := by unfold wfItem wfCfg noItem noCfg; simp [zeros8]
theorem eqItemZ (x : PItem) (hx : wfItem x) (w : World) : (binOp .eql 32 (.agg (itemv x).toArray) (.agg #[.int .u32 0, .string ⟨#[]⟩, .int .u32 0, .int .u8 0, .int .u8 0, .int .u8 0, .int .u8 0, .int .u8 0, .int .u8 0, .int .u8 0, .int .u8 0, .int .u8 0, .int .u8 0])).run Tryz.prog w = .ok (.bool (decide (x = noItem))) w := eqlItem x noItem hx noItem_wf w

section
variable {w : World} {T : TypeId} {g : Nat} {m : PMsg} {a : Option Addr} {c : Nat}
set_option maxRecDepth 100000 in
set_option maxHeartbeats 400000 in
theorem may_tx (h : Ms w T g m a c) : Calls Tryz.prog 49 #[.pointer (some ⟨g, 0, none⟩), .int .u64 1] w fun e w' => e = .returned (.bool (txMay m.tx)) ∧ Kept No w w' := by
  have sg := h.tx
  have HC := Lib.hid (txMay_calls (w := w) m.tx h.wf.tx)
  clear h
  go_enter Tryz.func49, Tryz.ntmps49
  go_wp2_with (first
    | (with_reducible refine wpList_ld rfl 24 _ rfl Tryz.isAgg24 3 Tryz.sizeOf24 g 1 rfl (txv m.tx) rfl sg ?_)
    | (go_at_call 88; refine HC.out.mono ?_; rintro _ w2 ⟨rfl, k2⟩))
  go_ret
  exact ⟨rfl, k2⟩
set_option maxRecDepth 100000 in
set_option maxHeartbeats 400000 in
theorem may_time (h : Ms w T g m a c) : Calls Tryz.prog 49 #[.pointer (some ⟨g, 0, none⟩), .int .u64 2] w fun e w' => e = .returned (.bool (decide (m.time ≤ maxC))) ∧ Kept No w w' := by
  have c0 := h.time
  have t0 := h.wf.time
  clear h
  by_cases h1 : m.time ≤ maxC
  · have h1' : ((m.time : Nat) : Int) ≤ 2147483647 := by unfold maxC at h1; omega
    rw [decide_eq_true h1]
    clear h1
    go_enter Tryz.func49, Tryz.ntmps49
    go_wp2
    go_ret
    exact ⟨rfl, Kept.refl _ _⟩
  · have h1' := decide_eq_false (show ¬ ((m.time : Nat) : Int) ≤ 2147483647 by unfold maxC at h1; omega)
    rw [decide_eq_false h1]
    clear h1
    go_enter Tryz.func49, Tryz.ntmps49
    go_wp2
    go_ret
    exact ⟨rfl, Kept.refl _ _⟩
set_option maxRecDepth 100000 in
set_option maxHeartbeats 400000 in
theorem may_no (h : Ms w T g m a c) : Calls Tryz.prog 49 #[.pointer (some ⟨g, 0, none⟩), .int .u64 32] w fun e w' => e = .returned (.bool (decide (m.no ≤ maxC))) ∧ Kept No w w' := by
  have c0 := h.no_
  have t0 := h.wf.no
  clear h
  by_cases h1 : m.no ≤ maxC
  · have h1' : ((m.no : Nat) : Int) ≤ 2147483647 := by unfold maxC at h1; omega
    rw [decide_eq_true h1]
    clear h1
    go_enter Tryz.func49, Tryz.ntmps49
    go_wp2
    go_ret
    exact ⟨rfl, Kept.refl _ _⟩
  · have h1' := decide_eq_false (show ¬ ((m.no : Nat) : Int) ≤ 2147483647 by unfold maxC at h1; omega)
    rw [decide_eq_false h1]
    clear h1
    go_enter Tryz.func49, Tryz.ntmps49
    go_wp2
    go_ret
    exact ⟨rfl, Kept.refl _ _⟩
set_option maxRecDepth 100000 in
set_option maxHeartbeats 400000 in
theorem may_key (h : Ms w T g m a c) : Calls Tryz.prog 49 #[.pointer (some ⟨g, 0, none⟩), .int .u64 8] w fun e w' => e = .returned (.bool (keyOk m.key)) ∧ Kept No w w' := by
  have sg := h.key
  have HC := Lib.hid (keyMay_calls (w := w) m.key h.wf.key)
  have l8 : (bcells m.key).length = 8 := by rw [bcells_length, h.wf.key]
  clear h
  go_enter Tryz.func49, Tryz.ntmps49
  go_wp2_with (first
    | (with_reducible refine wpList_ld rfl 28 _ rfl Tryz.isAgg28 8 Tryz.sizeOf28 g 7 rfl (bcells m.key) l8 sg ?_)
    | (go_at_call 55; refine HC.out.mono ?_; rintro _ w2 ⟨rfl, k2⟩))
  go_ret
  exact ⟨rfl, k2⟩
set_option maxRecDepth 100000 in
set_option maxHeartbeats 400000 in
theorem may_item (h : Ms w T g m a c) : Calls Tryz.prog 49 #[.pointer (some ⟨g, 0, none⟩), .int .u64 256] w fun e w' => e = .returned (.bool (itemMay m.item)) ∧ Kept No w w' := by
  have sg := h.item
  have HC := Lib.hid (itemMay_calls (w := w) m.item h.wf.item h.sm.item)
  have l13 := itemv_length h.wf.item
  clear h
  go_enter Tryz.func49, Tryz.ntmps49
  go_wp2_with (first
    | (with_reducible refine wpList_ld rfl 32 _ rfl Tryz.isAgg32 13 Tryz.sizeOf32 g 19 rfl (itemv m.item) l13 sg ?_)
    | (go_at_call 21; refine HC.out.mono ?_; rintro _ w2 ⟨rfl, k2⟩))
  go_ret
  exact ⟨rfl, k2⟩
set_option maxRecDepth 100000 in
set_option maxHeartbeats 400000 in
theorem may_writes (h : Ms w T g m a c) : Calls Tryz.prog 49 #[.pointer (some ⟨g, 0, none⟩), .int .u64 512] w fun e w' => e = .returned (.bool (writesMay m.writes)) ∧ Kept No w w' := by
  have c0 := h.writes
  have HC := Lib.hid (writesMay_calls (w := w) m.writes m.writes.length rfl a c h.wf.writes h.sm.each h.rd h.sm.many)
  clear h
  go_enter Tryz.func49, Tryz.ntmps49
  go_wp2_with (go_at_call 23; refine HC.out.mono ?_; rintro _ w2 ⟨rfl, k2⟩)
  go_ret
  exact ⟨rfl, k2⟩
set_option maxRecDepth 100000 in
set_option maxHeartbeats 400000 in
theorem may_reg (h : Ms w T g m a c) : Calls Tryz.prog 49 #[.pointer (some ⟨g, 0, none⟩), .int .u64 4] w fun e w' => e = .returned (.bool (regMay m.reg || decide (m.reg = (0, 0)) && decide (m.kind = 1 ∨ m.kind = 5))) ∧ Kept No w w' := by
  have sg := h.reg
  have c0 := h.kind
  have t0 := h.wf.kind
  have HC := Lib.hid (regMay_calls (w := w) m.reg h.wf.reg)
  have H := Lib.hid (fun w' k => (h.keptNo (w' := w') k).reg)
  have HK := Lib.hid (fun w' k => (h.keptNo (w' := w') k).kind)
  have hq := fun w => eqRegZ m.reg w
  have hg := eqGuard_reg
  clear h
  cases e1 : regMay m.reg
  · rw [e1] at HC
    by_cases h1 : m.reg = (0, 0)
    · rw [decide_eq_true h1] at hq ⊢
      clear h1
      by_cases h2 : m.kind = 1
      · have q2 : ((m.kind : Int) == 1) = true := beq_iff_eq.2 (by omega)
        rw [decide_eq_true (show m.kind = 1 ∨ m.kind = 5 from .inl h2)]
        clear h2
        go_enter Tryz.func49, Tryz.ntmps49
        go_wp2_with (first
          | (with_reducible refine wpList_ld rfl 26 _ rfl Tryz.isAgg26 2 Tryz.sizeOf26 g 5 rfl (regv m.reg) rfl sg ?_)
          | (go_at_call 89; refine HC.out.mono ?_; rintro _ w2 ⟨rfl, k2⟩; have sg2 := H.out _ k2; have c2 := HK.out _ k2)
          | (with_reducible refine wpList_ld rfl 26 _ rfl Tryz.isAgg26 2 Tryz.sizeOf26 g 5 rfl (regv m.reg) rfl sg2 ?_))
        go_ret
        exact ⟨by rfl, k2⟩
      · have q2 : ((m.kind : Int) == 1) = false := beq_eq_false_iff_ne.2 (by omega)
        have hd : decide (m.kind = 1 ∨ m.kind = 5) = ((m.kind : Int) == 5) := by
          rw [Bool.eq_iff_iff]; simp; omega
        rw [hd]
        generalize hz : ((m.kind : Int) == 5) = z at *
        clear h2 hd
        go_enter Tryz.func49, Tryz.ntmps49
        go_wp2_with (first
          | (with_reducible refine wpList_ld rfl 26 _ rfl Tryz.isAgg26 2 Tryz.sizeOf26 g 5 rfl (regv m.reg) rfl sg ?_)
          | (go_at_call 89; refine HC.out.mono ?_; rintro _ w2 ⟨rfl, k2⟩; have sg2 := H.out _ k2; have c2 := HK.out _ k2)
          | (with_reducible refine wpList_ld rfl 26 _ rfl Tryz.isAgg26 2 Tryz.sizeOf26 g 5 rfl (regv m.reg) rfl sg2 ?_))
        go_ret
        exact ⟨by cases z <;> rfl, k2⟩
    · rw [decide_eq_false h1] at hq ⊢
      clear h1
      go_enter Tryz.func49, Tryz.ntmps49
      go_wp2_with (first
        | (with_reducible refine wpList_ld rfl 26 _ rfl Tryz.isAgg26 2 Tryz.sizeOf26 g 5 rfl (regv m.reg) rfl sg ?_)
        | (go_at_call 89; refine HC.out.mono ?_; rintro _ w2 ⟨rfl, k2⟩; have sg2 := H.out _ k2; have c2 := HK.out _ k2)
        | (with_reducible refine wpList_ld rfl 26 _ rfl Tryz.isAgg26 2 Tryz.sizeOf26 g 5 rfl (regv m.reg) rfl sg2 ?_))
      go_ret
      exact ⟨by rfl, k2⟩
  · rw [e1] at HC
    go_enter Tryz.func49, Tryz.ntmps49
    go_wp2_with (first
      | (with_reducible refine wpList_ld rfl 26 _ rfl Tryz.isAgg26 2 Tryz.sizeOf26 g 5 rfl (regv m.reg) rfl sg ?_)
      | (go_at_call 89; refine HC.out.mono ?_; rintro _ w2 ⟨rfl, k2⟩))
    go_ret
    exact ⟨by rfl, k2⟩
set_option maxRecDepth 100000 in
set_option maxHeartbeats 400000 in
theorem may_mode (h : Ms w T g m a c) : Calls Tryz.prog 49 #[.pointer (some ⟨g, 0, none⟩), .int .u64 16] w fun e w' => e = .returned (.bool (decide (m.mode = 1 ∨ m.mode = 2))) ∧ Kept No w w' := by
  have c0 := h.mode
  clear h
  by_cases h2 : m.mode = 1
  · have q2 : ((m.mode : Int) == 1) = true := beq_iff_eq.2 (by omega)
    rw [decide_eq_true (show m.mode = 1 ∨ m.mode = 2 from .inl h2)]
    clear h2
    go_enter Tryz.func49, Tryz.ntmps49
    go_wp2
    go_ret
    exact ⟨by rfl, Kept.refl _ _⟩
  · have q2 : ((m.mode : Int) == 1) = false := beq_eq_false_iff_ne.2 (by omega)
    have hd : decide (m.mode = 1 ∨ m.mode = 2) = ((m.mode : Int) == 2) := by
      rw [Bool.eq_iff_iff]; simp; omega
    rw [hd]
    generalize hz : ((m.mode : Int) == 2) = z at *
    clear h2 hd
    go_enter Tryz.func49, Tryz.ntmps49
    go_wp2
    go_ret
    exact ⟨by rfl, Kept.refl _ _⟩
set_option maxRecDepth 100000 in
set_option maxHeartbeats 400000 in
theorem may_why (h : Ms w T g m a c) : Calls Tryz.prog 49 #[.pointer (some ⟨g, 0, none⟩), .int .u64 64] w fun e w' => e = .returned (.bool (decide (1 ≤ m.why ∧ m.why ≤ 17))) ∧ Kept No w w' := by
  have c0 := h.why
  have t0 := h.wf.why
  have t1 : ((m.why : Nat) : Int) < 256 := by omega
  clear h
  by_cases h2 : 1 ≤ m.why
  · have q2 : (1 : Int) ≤ m.why := by omega
    have hd : decide (1 ≤ m.why ∧ m.why ≤ 17) = decide (((m.why : Nat) : Int) ≤ 17) := by
      rw [Bool.eq_iff_iff]; simp; omega
    rw [hd]
    generalize hz : decide (((m.why : Nat) : Int) ≤ 17) = z at *
    clear h2 hd
    go_enter Tryz.func49, Tryz.ntmps49
    go_wp2
    go_ret
    exact ⟨by rw [← hz]; rfl, Kept.refl _ _⟩
  · have q2 := decide_eq_false (show ¬ (1 : Int) ≤ m.why by omega)
    rw [decide_eq_false (show ¬ (1 ≤ m.why ∧ m.why ≤ 17) by omega)]
    clear h2
    go_enter Tryz.func49, Tryz.ntmps49
    go_wp2
    go_ret
    exact ⟨by rfl, Kept.refl _ _⟩
set_option maxRecDepth 100000 in
set_option maxHeartbeats 400000 in
theorem may_yes (h : Ms w T g m a c) : Calls Tryz.prog 49 #[.pointer (some ⟨g, 0, none⟩), .int .u64 128] w fun e w' => e = .returned (.bool (decide (m.yes = 1 ∨ m.yes = 2 ∨ m.yes = 3 ∧ m.kind = 6))) ∧ Kept No w w' := by
  have c0 := h.yes
  have c1 := h.kind
  clear h
  by_cases h1 : m.yes = 1
  · have q1 : ((m.yes : Int) == 1) = true := beq_iff_eq.2 (by omega)
    rw [decide_eq_true (show m.yes = 1 ∨ m.yes = 2 ∨ m.yes = 3 ∧ m.kind = 6 from .inl h1)]
    clear h1
    go_enter Tryz.func49, Tryz.ntmps49
    go_wp2
    go_ret
    exact ⟨by rfl, Kept.refl _ _⟩
  have q1 : ((m.yes : Int) == 1) = false := beq_eq_false_iff_ne.2 (by omega)
  by_cases h2 : m.yes = 2
  · have q2 : ((m.yes : Int) == 2) = true := beq_iff_eq.2 (by omega)
    rw [decide_eq_true (show m.yes = 1 ∨ m.yes = 2 ∨ m.yes = 3 ∧ m.kind = 6 from .inr (.inl h2))]
    clear h1 h2
    go_enter Tryz.func49, Tryz.ntmps49
    go_wp2
    go_ret
    exact ⟨by rfl, Kept.refl _ _⟩
  have q2 : ((m.yes : Int) == 2) = false := beq_eq_false_iff_ne.2 (by omega)
  by_cases h3 : m.yes = 3
  · have q3 : ((m.yes : Int) == 3) = true := beq_iff_eq.2 (by omega)
    have hd : decide (m.yes = 1 ∨ m.yes = 2 ∨ m.yes = 3 ∧ m.kind = 6) = ((m.kind : Int) == 6) := by
      rw [Bool.eq_iff_iff]; simp; omega
    rw [hd]
    generalize hz : ((m.kind : Int) == 6) = z at *
    clear h1 h2 h3 hd
    go_enter Tryz.func49, Tryz.ntmps49
    go_wp2
    go_ret
    exact ⟨by rfl, Kept.refl _ _⟩
  · have q3 : ((m.yes : Int) == 3) = false := beq_eq_false_iff_ne.2 (by omega)
    rw [decide_eq_false (show ¬ (m.yes = 1 ∨ m.yes = 2 ∨ m.yes = 3 ∧ m.kind = 6) by omega)]
    clear h1 h2 h3
    go_enter Tryz.func49, Tryz.ntmps49
    go_wp2
    go_ret
    exact ⟨by rfl, Kept.refl _ _⟩
theorem mmay_calls (h : Ms w T g m a c) (f : Fd) : Calls Tryz.prog 49 #[.pointer (some ⟨g, 0, none⟩), .int .u64 (f.num : Nat)] w fun e w' => e = .returned (.bool (f.may m)) ∧ Kept No w w' := by
  cases f
  · exact may_tx h
  · exact may_time h
  · exact may_reg h
  · exact may_key h
  · exact may_mode h
  · exact may_no h
  · exact may_why h
  · exact may_yes h
  · exact may_item h
  · exact may_writes h

set_option maxRecDepth 100000 in
set_option maxHeartbeats 400000 in
theorem zero_tx (h : Ms w T g m a c) : Calls Tryz.prog 50 #[.pointer (some ⟨g, 0, none⟩), .int .u64 1] w fun e w' => e = .returned (.bool (decide (m.tx = (0, 0, 0)))) ∧ Kept No w w' := by
  have sg := h.tx
  have hq := fun w => eqTxZ m.tx w
  have hg := eqGuard_tx
  clear h
  generalize decide (m.tx = (0, 0, 0)) = z at *
  go_enter Tryz.func50, Tryz.ntmps50
  go_wp2_with ((with_reducible refine wpList_ld rfl 24 _ rfl Tryz.isAgg24 3 Tryz.sizeOf24 g 1 rfl (txv m.tx) rfl sg ?_))
  go_ret
  exact ⟨rfl, Kept.refl _ _⟩
set_option maxRecDepth 100000 in
set_option maxHeartbeats 400000 in
theorem zero_reg (h : Ms w T g m a c) : Calls Tryz.prog 50 #[.pointer (some ⟨g, 0, none⟩), .int .u64 4] w fun e w' => e = .returned (.bool (decide (m.reg = (0, 0)))) ∧ Kept No w w' := by
  have sg := h.reg
  have hq := fun w => eqRegZ m.reg w
  have hg := eqGuard_reg
  clear h
  generalize decide (m.reg = (0, 0)) = z at *
  go_enter Tryz.func50, Tryz.ntmps50
  go_wp2_with ((with_reducible refine wpList_ld rfl 26 _ rfl Tryz.isAgg26 2 Tryz.sizeOf26 g 5 rfl (regv m.reg) rfl sg ?_))
  go_ret
  exact ⟨rfl, Kept.refl _ _⟩
set_option maxRecDepth 100000 in
set_option maxHeartbeats 400000 in
theorem zero_key (h : Ms w T g m a c) : Calls Tryz.prog 50 #[.pointer (some ⟨g, 0, none⟩), .int .u64 8] w fun e w' => e = .returned (.bool (m.key == zeros8)) ∧ Kept No w w' := by
  have sg := h.key
  have l8 : (bcells m.key).length = 8 := by rw [bcells_length, h.wf.key]
  have hq := fun w => eqKeyZ m.key h.wf.key w
  have hg := eqGuard_key
  clear h
  generalize (m.key == zeros8) = z at *
  go_enter Tryz.func50, Tryz.ntmps50
  go_wp2_with ((with_reducible refine wpList_ld rfl 28 _ rfl Tryz.isAgg28 8 Tryz.sizeOf28 g 7 rfl (bcells m.key) l8 sg ?_))
  go_ret
  exact ⟨rfl, Kept.refl _ _⟩
set_option maxRecDepth 100000 in
set_option maxHeartbeats 400000 in
theorem zero_item (h : Ms w T g m a c) : Calls Tryz.prog 50 #[.pointer (some ⟨g, 0, none⟩), .int .u64 256] w fun e w' => e = .returned (.bool (decide (m.item = noItem))) ∧ Kept No w w' := by
  have sg := h.item
  have l13 := itemv_length h.wf.item
  have hq := fun w => eqItemZ m.item h.wf.item w
  have hg := eqGuard_item
  clear h
  generalize decide (m.item = noItem) = z at *
  go_enter Tryz.func50, Tryz.ntmps50
  go_wp2_with ((with_reducible refine wpList_ld rfl 32 _ rfl Tryz.isAgg32 13 Tryz.sizeOf32 g 19 rfl (itemv m.item) l13 sg ?_))
  go_ret
  exact ⟨rfl, Kept.refl _ _⟩
set_option maxRecDepth 100000 in
set_option maxHeartbeats 400000 in
theorem zero_time (h : Ms w T g m a c) : Calls Tryz.prog 50 #[.pointer (some ⟨g, 0, none⟩), .int .u64 2] w fun e w' => e = .returned (.bool (decide (m.time = 0))) ∧ Kept No w w' := by
  have c0 := h.time
  clear h
  have hd : decide (m.time = 0) = ((m.time : Int) == 0) := by
    rw [Bool.eq_iff_iff]; simp
  rw [hd]
  clear hd
  generalize hz : ((m.time : Int) == 0) = z at *
  go_enter Tryz.func50, Tryz.ntmps50
  go_wp2
  go_ret
  exact ⟨by first | rfl | (rw [← hz]; rfl), Kept.refl _ _⟩
set_option maxRecDepth 100000 in
set_option maxHeartbeats 400000 in
theorem zero_mode (h : Ms w T g m a c) : Calls Tryz.prog 50 #[.pointer (some ⟨g, 0, none⟩), .int .u64 16] w fun e w' => e = .returned (.bool (decide (m.mode = 0))) ∧ Kept No w w' := by
  have c0 := h.mode
  clear h
  have hd : decide (m.mode = 0) = ((m.mode : Int) == 0) := by
    rw [Bool.eq_iff_iff]; simp
  rw [hd]
  clear hd
  generalize hz : ((m.mode : Int) == 0) = z at *
  go_enter Tryz.func50, Tryz.ntmps50
  go_wp2
  go_ret
  exact ⟨by first | rfl | (rw [← hz]; rfl), Kept.refl _ _⟩
set_option maxRecDepth 100000 in
set_option maxHeartbeats 400000 in
theorem zero_no (h : Ms w T g m a c) : Calls Tryz.prog 50 #[.pointer (some ⟨g, 0, none⟩), .int .u64 32] w fun e w' => e = .returned (.bool (decide (m.no = 0))) ∧ Kept No w w' := by
  have c0 := h.no_
  clear h
  have hd : decide (m.no = 0) = ((m.no : Int) == 0) := by
    rw [Bool.eq_iff_iff]; simp
  rw [hd]
  clear hd
  generalize hz : ((m.no : Int) == 0) = z at *
  go_enter Tryz.func50, Tryz.ntmps50
  go_wp2
  go_ret
  exact ⟨by first | rfl | (rw [← hz]; rfl), Kept.refl _ _⟩
set_option maxRecDepth 100000 in
set_option maxHeartbeats 400000 in
theorem zero_why (h : Ms w T g m a c) : Calls Tryz.prog 50 #[.pointer (some ⟨g, 0, none⟩), .int .u64 64] w fun e w' => e = .returned (.bool (decide (m.why = 0))) ∧ Kept No w w' := by
  have c0 := h.why
  clear h
  have hd : decide (m.why = 0) = ((m.why : Int) == 0) := by
    rw [Bool.eq_iff_iff]; simp
  rw [hd]
  clear hd
  generalize hz : ((m.why : Int) == 0) = z at *
  go_enter Tryz.func50, Tryz.ntmps50
  go_wp2
  go_ret
  exact ⟨by first | rfl | (rw [← hz]; rfl), Kept.refl _ _⟩
set_option maxRecDepth 100000 in
set_option maxHeartbeats 400000 in
theorem zero_yes (h : Ms w T g m a c) : Calls Tryz.prog 50 #[.pointer (some ⟨g, 0, none⟩), .int .u64 128] w fun e w' => e = .returned (.bool (decide (m.yes = 0))) ∧ Kept No w w' := by
  have c0 := h.yes
  clear h
  have hd : decide (m.yes = 0) = ((m.yes : Int) == 0) := by
    rw [Bool.eq_iff_iff]; simp
  rw [hd]
  clear hd
  generalize hz : ((m.yes : Int) == 0) = z at *
  go_enter Tryz.func50, Tryz.ntmps50
  go_wp2
  go_ret
  exact ⟨by first | rfl | (rw [← hz]; rfl), Kept.refl _ _⟩
set_option maxRecDepth 100000 in
set_option maxHeartbeats 400000 in
theorem zero_writes (h : Ms w T g m a c) : Calls Tryz.prog 50 #[.pointer (some ⟨g, 0, none⟩), .int .u64 512] w fun e w' => e = .returned (.bool (decide (m.writes = []))) ∧ Kept No w w' := by
  have c0 := h.writes
  clear h
  have hd : decide (m.writes = []) = ((m.writes.length : Int) == 0) := by
    rw [Bool.eq_iff_iff]; simp [← List.length_eq_zero_iff]
  rw [hd]
  clear hd
  generalize hz : ((m.writes.length : Int) == 0) = z at *
  go_enter Tryz.func50, Tryz.ntmps50
  go_wp2
  go_ret
  exact ⟨by first | rfl | (rw [← hz]; rfl), Kept.refl _ _⟩
theorem mzero_calls (h : Ms w T g m a c) (f : Fd) : Calls Tryz.prog 50 #[.pointer (some ⟨g, 0, none⟩), .int .u64 (f.num : Nat)] w fun e w' => e = .returned (.bool (f.zero m)) ∧ Kept No w w' := by
  cases f
  · exact zero_tx h
  · exact zero_time h
  · exact zero_reg h
  · have := zero_key h
    rw [show (m.key == zeros8) = decide (m.key = zeros8) from by rw [Bool.eq_iff_iff]; simp] at this
    exact this
  · exact zero_mode h
  · exact zero_no h
  · exact zero_why h
  · exact zero_yes h
  · exact zero_item h
  · exact zero_writes h
end
end Go.Proofs.YtjfmidcaekhhgaaGreatDoor

namespace Go.Proofs.YtjfmidcaekhhgaaGreatDoor
open Go.RowKit Go.PM

/-- The field of a number. -/
def Fd.at_ : Nat → Fd
  | 0 => .tx | 1 => .time | 2 => .reg | 3 => .key | 4 => .mode | 5 => .no | 6 => .why | 7 => .yes | 8 => .item | _ => .writes
theorem Fd.at_n {i : Nat} (h : i < 10) : (Fd.at_ i).n = i := by
  have : i = 0 ∨ i = 1 ∨ i = 2 ∨ i = 3 ∨ i = 4 ∨ i = 5 ∨ i = 6 ∨ i = 7 ∨ i = 8 ∨ i = 9 := by omega
  rcases this with rfl | rfl | rfl | rfl | rfl | rfl | rfl | rfl | rfl | rfl <;> rfl
theorem Fd.n_at (f : Fd) : Fd.at_ f.n = f := by cases f <;> rfl
theorem Fd.n_lt (f : Fd) : f.n < 10 := by cases f <;> decide
theorem mMay_iff (m : PMsg) : mMay m = true ↔ (∀ i, i < 10 → Fd.ok m (Fd.at_ i) = true) ∧ mask m.kind ≠ 0 := by
  unfold mMay
  simp only [Bool.and_eq_true, decide_eq_true_eq, List.all_eq_true, ne_eq, idx_zero]
  constructor
  · rintro ⟨h1, h2⟩
    exact ⟨fun i _ => h1 _ (by cases Fd.at_ i <;> decide), h2⟩
  · rintro ⟨h1, h2⟩
    exact ⟨fun f _ => by have := h1 f.n f.n_lt; rwa [Fd.n_at] at this, h2⟩
section
variable {w : World} {a : Option Addr} {c : Nat}
def MmRel (w0 : World) (T : TypeId) (g : Nat) (m : PMsg) (a : Option Addr) (c : Nat) (f : Value) (wr : World) : Prop :=
  ∃ i : Nat, i ≤ 10 ∧ f = .int .u64 ((2 ^ i : Nat) : Int) ∧ (∀ j, j < i → Fd.ok m (Fd.at_ j) = true) ∧ Ms wr T g m a c ∧ Kept No w0 wr
def logOf (v : Value) : Nat := 1024 - (intOf v).toNat

set_option maxRecDepth 100000 in
set_option maxHeartbeats 1000000 in
theorem mMay_calls (m : PMsg) (hm : m.Wf) (hs : m.Sm) (hr : Rd w a (pwsv m.writes)) (hat : ∀ b, At a b → b < w.heap.size) :
    Calls Tryz.prog 19 #[.agg (msgv m a c).toArray] w fun e w' => e = .returned (.bool (mMay m)) ∧ Kept No w w' := by
  have B0 := Blk.new w 42 (msgv m a c)
  have K0 := (Kept.refl No w).alloc (.cells (msgv m a c).toArray 42)
  have M0 : Ms (w.alloc (.cells (msgv m a c).toArray 42)) 42 w.heap.size m a c := ⟨B0, hr.keptNo K0, fun b hb => by rw [World.size_alloc]; exact Nat.lt_succ_of_lt (hat b hb), hm, hs⟩
  have HF := Lib.hid (fun w => fields_calls (w := w) m.kind hm.kind)
  have c0 := M0.kind
  have hiff := Lib.hid (mMay_iff m)
  clear hr hat B0
  go_enter Tryz.func19, Tryz.ntmps19
  go_wp2_with (go_at_call 48; refine (HF.out _).mono ?_; rintro _ _ ⟨rfl, rfl⟩)
  generalize (w.alloc (.cells (msgv m a c).toArray 42)) = ws at *
  clear c0
  go_loopw [4] (fun f wr => MmRel w 42 w.heap.size m a c f wr) (fun f _ => logOf f)
  case atStart => exact ⟨0, by omega, rfl, fun j hj => absurd hj (Nat.not_lt_zero _), M0, K0⟩
  case round =>
    obtain ⟨i, hi, rfl, hok, hM, hK⟩ := hrel
    by_cases hlt : i < 10
    · have hn := Fd.at_n hlt
      have hand := mask_and m.kind (Fd.at_ i)
      have hpow : 2 ^ i = (Fd.at_ i).num := by unfold Fd.num; rw [hn]
      have hle : (Fd.at_ i).num ≤ 512 := by cases Fd.at_ i <;> decide
      have hpos : 0 < (Fd.at_ i).num := by cases Fd.at_ i <;> decide
      have hnext : 2 ^ (i + 1) = 2 * (Fd.at_ i).num := by rw [Nat.pow_succ, hpow, Nat.mul_comm]
      have HMay := Lib.hid (mmay_calls hM (Fd.at_ i))
      have HZero := Lib.hid (mzero_calls hM (Fd.at_ i))
      have HOK := Lib.hid (show Fd.ok m (Fd.at_ i) = if Fd.at_ i ∈ idx m.kind then (Fd.at_ i).may m else (Fd.at_ i).zero m from rfl)
      have HOKS := Lib.hid hok
      rw [hpow]
      generalize hF : (Fd.at_ i) = F at *
      generalize hN : F.num = N at *
      have l1 : (N : Int) < 1024 := by omega
      clear hok
      have hstep : Fd.ok m F = true → ∀ j, j < i + 1 → Fd.ok m (Fd.at_ j) = true := fun h j hj => by
        by_cases e : j = i
        · subst e; rw [hF]; exact h
        · exact HOKS.out j (by omega)
      have hno : Fd.ok m F = false → mMay m = false := fun h => by
        cases e : mMay m with
        | false => rfl
        | true =>
          have := (hiff.out.1 e).1 i hlt
          rw [hF, h] at this
          cases this
      have HS := Lib.hid hstep
      have HNO := Lib.hid hno
      have hval : (N : Int) * 2 = ((2 ^ (i + 1) : Nat) : Int) := by rw [hnext]; omega
      have HV := Lib.hid hval
      have hlog : logOf (.int .u64 ((N : Int) * 2)) < logOf (.int .u64 (N : Int)) := by simp only [logOf, intOf]; omega
      have HL := Lib.hid hlog
      clear hstep hno hval hlog hnext hF hpow HOKS
      by_cases hin : F ∈ idx m.kind
      · rw [if_pos hin] at hand HOK
        have hne : ((N : Int) == 0) = false := beq_eq_false_iff_ne.2 (by omega)
        cases hz : F.may m
        · rw [hz] at HMay HOK
          have HFalse := Lib.hid (HNO.out HOK.out)
          clear hin hz
          go_wp2_with (go_at_call 49; refine HMay.out.mono ?_; rintro _ w2 ⟨rfl, k2⟩)
          go_ret
          exact ⟨by rw [HFalse.out]; rfl, hK.transNo k2⟩
        · rw [hz] at HMay HOK
          clear hin hz
          go_wp2_with (go_at_call 49; refine HMay.out.mono ?_; rintro _ w2 ⟨rfl, k2⟩)
          exact ⟨⟨i + 1, by omega, by rw [HV.out], HS.out HOK.out, hM.keptNo k2, hK.transNo k2⟩, HL.out⟩
      · rw [if_neg hin] at hand HOK
        cases hz : F.zero m
        · rw [hz] at HZero HOK
          have HFalse := Lib.hid (HNO.out HOK.out)
          clear hin hz
          go_wp2_with (go_at_call 50; refine HZero.out.mono ?_; rintro _ w2 ⟨rfl, k2⟩)
          go_ret
          exact ⟨by rw [HFalse.out]; rfl, hK.transNo k2⟩
        · rw [hz] at HZero HOK
          clear hin hz
          go_wp2_with (go_at_call 50; refine HZero.out.mono ?_; rintro _ w2 ⟨rfl, k2⟩)
          exact ⟨⟨i + 1, by omega, by rw [HV.out], HS.out HOK.out, hM.keptNo k2, hK.transNo k2⟩, HL.out⟩
    · obtain rfl : i = 10 := by omega
      have hb : mMay m = ((mask m.kind : Int) != 0) := by
        rw [Bool.eq_iff_iff, hiff.out]
        simp only [bne_iff_ne, ne_eq]
        constructor
        · rintro ⟨_, h⟩; omega
        · intro h; exact ⟨hok, by omega⟩
      have HB := Lib.hid hb
      generalize hz : ((mask m.kind : Int) != 0) = z at *
      clear hok hb
      go_wp2
      go_ret
      exact ⟨by rw [HB.out, ← hz]; rfl, hK⟩
end
end Go.Proofs.YtjfmidcaekhhgaaGreatDoor
