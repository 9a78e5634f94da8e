/- slices.Sort over at most twelve bytes. -/
import Derived.Test.YtencnfgmgcdiiaaSeU
namespace Go.Proofs.Ytencnfgmgcdiiaa
open Go.RowKit Go.PM
section
variable {w : World}
/-- The length in bits of what a desk can hold. -/
def len16 (n : Nat) : Int := if n = 0 then 0 else if n = 1 then 1 else if n < 4 then 2 else if n < 8 then 3 else if n < 16 then 4 else 5
set_option maxRecDepth 100000 in
set_option maxHeartbeats 4000000 in
theorem len64_small (n : Nat) (hn : n ≤ 16) : Calls Try.prog 81 #[.int .u64 n] w fun e w' => e = .returned (.int .i64 (len16 n)) ∧ w = w' := by
  have h : n = 0 ∨ n = 1 ∨ n = 2 ∨ n = 3 ∨ n = 4 ∨ n = 5 ∨ n = 6 ∨ n = 7 ∨ n = 8 ∨ n = 9 ∨ n = 10 ∨ n = 11 ∨ n = 12 ∨ n = 13 ∨ n = 14 ∨ n = 15 ∨ n = 16 := by omega
  rcases h with rfl | rfl | rfl | rfl | rfl | rfl | rfl | rfl | rfl | rfl | rfl | rfl | rfl | rfl | rfl | rfl | rfl
  all_goals
    go_enter Try.func81, Try.ntmps81
    go_wp2
    go_ret
    exact ⟨by kernel_rfl, rfl⟩
theorem len_small (n : Nat) (hn : n ≤ 16) : Calls Try.prog 69 #[.int .u64 n] w fun e w' => e = .returned (.int .i64 (len16 n)) ∧ w = w' := by
  have HN := Lib.hid (fun w => len64_small (w := w) n hn)
  generalize len16 n = m at *
  go_enter Try.func69, Try.ntmps69
  go_wp2_with (go_at_call 81; refine (HN.out _).mono ?_; rintro _ _ ⟨rfl, rfl⟩)
  go_ret
  exact ⟨rfl, rfl⟩
end
end Go.Proofs.Ytencnfgmgcdiiaa
