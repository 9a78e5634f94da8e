/- The reference's chances and cases, as walks. -/
import Derived.Test.YtencnfgmgcdiiaaAvB
namespace Go.Proofs.Ytencnfgmgcdiiaa
open Go.RowKit Go.PM

/-- Chances that may be. -/
def upOk (u : List UInt8) : Bool := u.all fun x => x.toNat ≤ 100

theorem avCases_le {us : Nat → Nat} (h : ∀ k, us k ≤ 100) (n set : Nat) : avCases us n set ≤ 100 ^ n := by
  induction n with
  | zero => exact Nat.le_refl _
  | succ n ih =>
    unfold avCases
    rw [Nat.pow_succ]
    refine Nat.mul_le_mul ih ?_
    have := h n
    split <;> omega
theorem upOk_le {u : List UInt8} (h : upOk u = true) (k : Nat) : vsOf u k ≤ 100 := by
  unfold vsOf
  rw [List.getD_eq_getElem?_getD]
  unfold upOk at h
  simp only [List.all_eq_true, decide_eq_true_eq] at h
  cases e : u[k]? with
  | none => simp
  | some x => exact h x (List.mem_of_getElem? e)
theorem upcell (u : List UInt8) {k : Nat} (hk : k < u.length) : (bcells u)[k]? = some (.int .u8 (vsOf u k)) := by
  rw [bcells_get u k hk]
  simp [vsOf, List.getD_eq_getElem?_getD, hk]

section
variable {w : World}

def MayRel (ws : World) (u : List UInt8) (i : Value) (wr : World) : Prop :=
  ∃ k : Nat, k ≤ 8 ∧ upOk (u.take k) = true ∧ i = .int .i64 k ∧ wr = ws

theorem upOk_step {u : List UInt8} {k : Nat} (hk : k < u.length) (h : upOk (u.take k) = true) : upOk (u.take (k + 1)) = decide (vsOf u k ≤ 100) := by
  rw [List.take_succ_eq_append_getElem hk]
  unfold upOk at *
  rw [List.all_append, h]
  simp [vsOf, List.getD_eq_getElem?_getD, hk]

set_option maxRecDepth 100000 in
set_option maxHeartbeats 400000 in
theorem refUp_calls (u : List UInt8) (hl : u.length = 8) :
    Calls Try.prog 55 #[.agg (bcells u).toArray] w fun x w' => x = .returned (.bool (upOk u)) ∧ Kept No w w' := by
  go_enter Try.func55, Try.ntmps55
  go_wp2
  have B0 := Blk.new w 47 (bcells u)
  have K0 := (Kept.refl No w).alloc (.cells (bcells u).toArray 47)
  generalize hws : w.alloc (.cells (bcells u).toArray 47) = ws at *
  go_loopw [3] (fun i wr => MayRel ws u i wr) (fun i _ => 8 - (intOf i).toNat)
  case atStart => exact ⟨0, by omega, rfl, rfl, rfl⟩
  case round =>
    obtain ⟨k, hk, ho, rfl, rfl⟩ := hrel
    have HO := Lib.hid ho
    clear ho
    by_cases hlt : k < 8
    · have i0 : (0 : Int) ≤ k := by omega
      have i1 : (k : Int) < 8 := by omega
      have hc : wr.cell? ⟨w.heap.size, k, none⟩ = some (.int .u8 (vsOf u k)) := (B0.cell _).trans (upcell u (by omega))
      have v1 := vsOf_lt u k
      by_cases h100 : vsOf u k ≤ 100
      · have V1 : ((vsOf u k : Nat) : Int) ≤ 100 := by omega
        go_wp2
        go_roundw
        case rel => exact ⟨k + 1, by omega, by rw [upOk_step (by omega) HO.out]; exact decide_eq_true h100, by go_num, rfl⟩
        case measure => simp [intOf]; omega
      · have V1 : (100 : Int) < (vsOf u k : Nat) := by omega
        go_wp2
        go_ret
        refine ⟨?_, K0⟩
        have : upOk u = false := by
          cases h : upOk u
          · rfl
          · exact absurd (upOk_le h k) h100
        rw [this]; rfl
    · have e : k = 8 := by omega
      subst e
      go_wp2
      go_ret
      have := HO.out
      rw [List.take_of_length_le (by omega)] at this
      exact ⟨by rw [this]; rfl, K0⟩

def CasRel (ws : World) (u : List UInt8) (set : Nat) (n i : Value) (wr : World) : Prop :=
  ∃ k : Nat, k ≤ 8 ∧ n = .int .u64 (avCases (vsOf u) k set) ∧ i = .int .i64 k ∧ wr = ws

set_option maxRecDepth 100000 in
set_option maxHeartbeats 400000 in
theorem refCases_calls (u : List UInt8) (hl : u.length = 8) (hu : upOk u = true) (set : Nat) (hs : set < 18446744073709551616) :
    Calls Try.prog 56 #[.agg (bcells u).toArray, .int .u64 set] w fun x w' => x = .returned (.int .u64 (avCases (vsOf u) 8 set)) ∧ Kept No w w' := by
  go_enter Try.func56, Try.ntmps56
  go_wp2
  have B0 := Blk.new w 47 (bcells u)
  have K0 := (Kept.refl No w).alloc (.cells (bcells u).toArray 47)
  generalize hws : w.alloc (.cells (bcells u).toArray 47) = ws at *
  go_loopw [5, 6] (fun n i wr => CasRel ws u set n i wr) (fun _ i _ => 8 - (intOf i).toNat)
  case atStart => exact ⟨0, by omega, rfl, rfl, rfl⟩
  case round =>
    obtain ⟨k, hk, rfl, rfl, rfl⟩ := hrel
    by_cases hlt : k < 8
    · have i0 : (0 : Int) ≤ k := by omega
      have i1 : (k : Int) < 8 := by omega
      have hc : wr.cell? ⟨w.heap.size, k, none⟩ = some (.int .u8 (vsOf u k)) := (B0.cell _).trans (upcell u (by omega))
      have v1 := upOk_le hu k
      have V1 : ((vsOf u k : Nat) : Int) ≤ 100 := by omega
      have step : avCases (vsOf u) (k + 1) set = avCases (vsOf u) k set * if set.testBit k then vsOf u k else 100 - vsOf u k := rfl
      have a1 : avCases (vsOf u) (k + 1) set ≤ 10000000000000000 := Nat.le_trans (avCases_le (upOk_le hu) _ _) (Nat.le_trans (Nat.pow_le_pow_right (by omega) (show k + 1 ≤ 8 by omega)) (by decide))
      cases hb : set.testBit k
      · have M1 : IntKind.u64.wrap ((avCases (vsOf u) k set : Int) * (100 - (vsOf u k : Nat))) = ((avCases (vsOf u) (k + 1) set : Nat) : Int) := by
          rw [hb, if_neg (by decide)] at step
          have : ((avCases (vsOf u) k set : Int) * (100 - (vsOf u k : Nat))) = ((avCases (vsOf u) (k + 1) set : Nat) : Int) := by
            rw [step, Int.natCast_mul, Int.natCast_sub v1]; rfl
          rw [this, IntKind.wrap_u64]
          omega
        go_wp2_with (go_at_call 47; refine (has_calls set k hs (by omega)).mono ?_; rw [hb]; rintro _ _ ⟨rfl, rfl⟩)
        exact ⟨⟨k + 1, by omega, by rw [step, hb, if_neg (by decide), Int.natCast_mul], by go_num, rfl⟩, by simp [intOf]; omega⟩
      · have M1 : IntKind.u64.wrap ((avCases (vsOf u) k set : Int) * (vsOf u k : Nat)) = ((avCases (vsOf u) (k + 1) set : Nat) : Int) := by
          rw [hb, if_pos rfl] at step
          have : ((avCases (vsOf u) k set : Int) * (vsOf u k : Nat)) = ((avCases (vsOf u) (k + 1) set : Nat) : Int) := by
            rw [step, Int.natCast_mul]
          rw [this, IntKind.wrap_u64]
          omega
        go_wp2_with (go_at_call 47; refine (has_calls set k hs (by omega)).mono ?_; rw [hb]; rintro _ _ ⟨rfl, rfl⟩)
        exact ⟨⟨k + 1, by omega, by rw [step, hb, if_pos rfl, Int.natCast_mul], by go_num, rfl⟩, by simp [intOf]; omega⟩
    · have e : k = 8 := by omega
      subst e
      go_wp2
      go_ret
      exact ⟨rfl, K0⟩
end
end Go.Proofs.Ytencnfgmgcdiiaa
