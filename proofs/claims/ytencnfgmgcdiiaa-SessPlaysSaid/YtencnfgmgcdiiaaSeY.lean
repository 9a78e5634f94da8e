/- slices.Sort of no bytes. -/
import Derived.Test.YtencnfgmgcdiiaaSeX
namespace Go.Proofs.Ytencnfgmgcdiiaa
open Go.RowKit Go.PM
section
variable {w : World}
set_option maxRecDepth 100000 in
set_option maxHeartbeats 1000000 in
theorem ins_nil : Calls Try.prog 71 #[.slice none 0 0, .int .i64 0, .int .i64 0] w fun e w' => e = .returned (.tuple #[]) ∧ w = w' := by
  go_enter Try.func71, Try.ntmps71
  go_wp2
  refine wp_loop_rounds 1 ?_
  rw [rounds_succ]
  go_wp2
  go_end0
  exact ⟨rfl, rfl⟩
set_option maxRecDepth 100000 in
set_option maxHeartbeats 1000000 in
theorem pdq_nil (lim : Int) : Calls Try.prog 68 #[.slice none 0 0, .int .i64 0, .int .i64 0, .int .i64 lim] w fun e w' => e = .returned (.tuple #[]) ∧ w = w' := by
  have HN := Lib.hid (ins_nil (w := w))
  go_enter Try.func68, Try.ntmps68
  go_wp2
  refine wp_loop_rounds 1 ?_
  rw [rounds_succ]
  go_wp2_with (go_at_call 71; refine HN.out.mono ?_; rintro _ w1 ⟨rfl, rfl⟩)
  refine bodyPost_ret (results_none rfl _ _ _) rfl ?_
  exact ⟨rfl, rfl⟩
set_option maxRecDepth 100000 in
set_option maxHeartbeats 1000000 in
theorem sort_nil : Calls Try.prog 62 #[.slice none 0 0] w fun e w' => e = .returned (.tuple #[]) ∧ w = w' := by
  have HL : Hid (∀ w : World, Calls Try.prog 69 #[.int .u64 0] w fun e w' => e = .returned (.int .i64 (len16 0)) ∧ w = w') := Lib.hid (fun w => len_small (w := w) 0 (by omega))
  have HP := Lib.hid (fun lim => pdq_nil (w := w) lim)
  generalize len16 0 = m at *
  go_enter Try.func62, Try.ntmps62
  go_wp2_with (first
    | (go_at_call 69; refine (HL.out _).mono ?_; rintro _ _ ⟨rfl, rfl⟩)
    | (go_at_call 68; refine (HP.out _).mono ?_; rintro _ w1 ⟨rfl, rfl⟩))
  go_end0
  exact ⟨rfl, rfl⟩
end
end Go.Proofs.Ytencnfgmgcdiiaa
