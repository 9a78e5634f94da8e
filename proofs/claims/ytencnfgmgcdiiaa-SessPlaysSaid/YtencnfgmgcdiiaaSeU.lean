/- slices' pdqsort over a window of at most twelve bytes. -/
import Derived.Test.YtencnfgmgcdiiaaSeT
namespace Go.Proofs.Ytencnfgmgcdiiaa
open Go.RowKit Go.PM
section
variable {w : World}
set_option maxRecDepth 100000 in
set_option maxHeartbeats 1000000 in
theorem pdq_small (g : Nat) (l : List UInt8) (tail : List Value) (n cap lo hi : Nat) (hl : l.length = n) (hn : n < 1000000) (h0 : lo ≤ hi) (h1 : hi ≤ n) (h12 : hi - lo ≤ 12) (T : TypeId) (hb : Blk w g T (bcells l ++ tail)) (lim : Int) :
    Calls Try.prog 68 #[.slice (some ⟨g, 0, none⟩) n cap, .int .i64 lo, .int .i64 hi, .int .i64 lim] w (IwPost w g T tail l lo hi) := by
  have w0 : IntKind.i64.wrap ((hi : Int) - lo) = (hi : Int) - lo := by rw [IntKind.wrap_i64]; omega
  have d12 : decide ((hi : Int) - lo ≤ 12) = true := decide_eq_true (by omega)
  go_enter Try.func68, Try.ntmps68
  go_wp2
  refine wp_loop_rounds 1 ?_
  rw [rounds_succ]
  go_wp2_with (go_at_call 71; refine (insw_calls g l tail n cap lo hi hl hn h0 h1 T hb).mono ?_; rintro _ w1 ⟨rfl, hK, hS⟩)
  go_end0
  exact ⟨rfl, hK, hS⟩
end
end Go.Proofs.Ytencnfgmgcdiiaa
