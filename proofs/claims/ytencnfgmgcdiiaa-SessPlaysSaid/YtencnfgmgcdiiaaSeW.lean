/- slices.Sort over at most twelve bytes. -/
import Derived.Test.YtencnfgmgcdiiaaSeV
namespace Go.Proofs.Ytencnfgmgcdiiaa
open Go.RowKit Go.PM
section
variable {w : World}
set_option maxRecDepth 100000 in
set_option maxHeartbeats 1000000 in
theorem sort_small (g : Nat) (l : List UInt8) (tail : List Value) (n cap : Nat) (hl : l.length = n) (hn : n ≤ 12) (T : TypeId) (hb : Blk w g T (bcells l ++ tail)) :
    Calls Try.prog 62 #[.slice (some ⟨g, 0, none⟩) n cap] w (IwPost w g T tail l 0 n) := by
  have hw : IntKind.u64.wrap (n : Int) = n := by rw [IntKind.wrap_u64]; exact Int.emod_eq_of_lt (by omega) (by omega)
  have HL := Lib.hid (fun w => len_small (w := w) n (by omega))
  have HP := Lib.hid (fun lim => pdq_small (w := w) g l tail n cap 0 n hl (by omega) (by omega) (by omega) (by omega) T hb lim)
  generalize len16 n = m at *
  go_enter Try.func62, Try.ntmps62
  go_wp2_with (first
    | (go_at_call 69; refine (HL.out _).mono ?_; rintro _ _ ⟨rfl, rfl⟩)
    | (go_at_call 68; refine (HP.out _).mono ?_; rintro _ w1 ⟨rfl, hK, hS⟩))
  go_end0
  exact ⟨rfl, hK, hS⟩
end
end Go.Proofs.Ytencnfgmgcdiiaa
