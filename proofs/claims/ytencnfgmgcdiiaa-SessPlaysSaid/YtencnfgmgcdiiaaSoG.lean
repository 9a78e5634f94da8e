/- slices.Sort of at most sixteen distinct bytes. -/
import Derived.Test.YtencnfgmgcdiiaaSoF
namespace Go.Proofs.Ytencnfgmgcdiiaa
open Go.RowKit Go.PM
set_option maxRecDepth 100000 in
set_option maxHeartbeats 1000000 in
theorem sort16 (w : World) (g : Nat) (l : List UInt8) (tail : List Value) (n cap : Nat) (hl : l.length = n) (hnd : l.Nodup) (h13 : 13 ≤ n) (hn : n ≤ 16) (T : TypeId) (hb : Blk w g T (bcells l ++ tail)) :
    Calls Try.prog 62 #[.slice (some ⟨g, 0, none⟩) n cap] w (IwPost w g T tail l 0 n) := by
  have hw : IntKind.u64.wrap (n : Int) = n := by rw [IntKind.wrap_u64]; exact Int.emod_eq_of_lt (by omega) (by omega)
  have HL := Lib.hid (fun w => len_small (w := w) n (by omega))
  have h1 : (n : Int) < len16 n + 12 ∧ len16 n < 100 := by
    have h : n = 13 ∨ n = 14 ∨ n = 15 ∨ n = 16 := by omega
    rcases h with h | h | h | h <;> rw [h] <;> decide
  have HP := Lib.hid (pdq_calls (w := w) g l tail n cap (len16 n) hl hn hnd h1.1 h1.2 T hb)
  clear h1
  generalize len16 n = m at *
  go_enter Try.func62, Try.ntmps62
  go_wp2_with (first
    | (go_at_call 69; refine (HL.out _).mono ?_; rintro _ _ ⟨rfl, rfl⟩)
    | (go_at_call 68; refine HP.out.mono ?_; rintro _ w1 ⟨rfl, hK, hS⟩))
  go_end0
  exact ⟨rfl, hK, hS⟩
theorem sortsTo16 : SortsTo 16 := fun w g l tail n cap hl hnd hn T hb => by
  by_cases h : n ≤ 12
  · exact sort_small g l tail n cap hl h T hb
  · exact sort16 w g l tail n cap hl hnd (by omega) hn T hb
end Go.Proofs.Ytencnfgmgcdiiaa
