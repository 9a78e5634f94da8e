/- The document's fields of a kind of message: a walk. -/
import Derived.Test.YtjfmidcaekhhgaaGreatDoorRfI
namespace Go.Proofs.YtjfmidcaekhhgaaGreatDoor
open Go.RowKit Go.PM
/-- A field's letter. -/
def Fd.ch : Fd → UInt8
  | .tx => 116 | .time => 99 | .reg => 103 | .key => 107 | .mode => 109 | .no => 110 | .why => 119 | .yes => 121 | .item => 105 | .writes => 108
def fstr (k : Nat) : List UInt8 := (idx k).map Fd.ch
section
variable {w : World}
set_option maxRecDepth 100000 in
set_option maxHeartbeats 2000000 in
theorem refFields_calls (k : Nat) :
    Calls Tryz.prog 39 #[.int .u8 k] w fun e w' => e = .returned (.string ⟨(fstr k).toArray⟩) ∧ w = w' := by
  rcases idx_cases k with h | h | h | h | h | h | h | h | h | h | h | h
  · have hf : fstr k = [] := by unfold fstr; rw [h]; rfl
    rw [hf]
    have hn : k ≠ 1 ∧ k ≠ 2 ∧ k ≠ 3 ∧ k ≠ 4 ∧ k ≠ 5 ∧ k ≠ 6 ∧ k ≠ 7 ∧ k ≠ 8 ∧ k ≠ 9 ∧ k ≠ 10 ∧ k ≠ 11 := by
      refine ⟨?_, ?_, ?_, ?_, ?_, ?_, ?_, ?_, ?_, ?_, ?_⟩ <;> (rintro rfl; revert h; decide)
    obtain ⟨n1, n2, n3, n4, n5, n6, n7, n8, n9, n10, n11⟩ := hn
    have q1 : ((k : Int) == 1) = false := beq_eq_false_iff_ne.2 (by omega)
    have q2 : ((k : Int) == 2) = false := beq_eq_false_iff_ne.2 (by omega)
    have q3 : ((k : Int) == 3) = false := beq_eq_false_iff_ne.2 (by omega)
    have q4 : ((k : Int) == 4) = false := beq_eq_false_iff_ne.2 (by omega)
    have q5 : ((k : Int) == 5) = false := beq_eq_false_iff_ne.2 (by omega)
    have q6 : ((k : Int) == 6) = false := beq_eq_false_iff_ne.2 (by omega)
    have q7 : ((k : Int) == 7) = false := beq_eq_false_iff_ne.2 (by omega)
    have q8 : ((k : Int) == 8) = false := beq_eq_false_iff_ne.2 (by omega)
    have q9 : ((k : Int) == 9) = false := beq_eq_false_iff_ne.2 (by omega)
    have q10 : ((k : Int) == 10) = false := beq_eq_false_iff_ne.2 (by omega)
    have q11 : ((k : Int) == 11) = false := beq_eq_false_iff_ne.2 (by omega)
    clear n1 n2 n3 n4 n5 n6 n7 n8 n9 n10 n11 h hf
    go_enter Tryz.func39, Tryz.ntmps39
    go_wp2
    go_ret
    exact ⟨rfl, rfl⟩
  all_goals
    subst h
    go_enter Tryz.func39, Tryz.ntmps39
    go_wp2
    go_ret
    exact ⟨by rfl, rfl⟩
end
end Go.Proofs.YtjfmidcaekhhgaaGreatDoor
