/- An index of an array by value, in range. -/
import Derived.Test.YtjfmidcaekhhgaaGreatDoorBase
import Derived.Laws.PanicsMore
namespace Go.PM
open Go.RowKit

variable {P : Program} {w : World}
theorem run_index_array (t e : TypeId) (n : Nat) (cs : Array Value) (k : IntKind) (i : Nat) (u : Value) (h : P.underlying t = some (.array n e)) (hi : i < n) (hc : cs[i]? = some u) (hs : ∀ w, (sizeOf e).run P w = .ok 1 w) (ha : ∀ w, (isAgg e).run P w = .ok false w) :
    (Instr.index t (.agg cs) (.int k i)).run P w = .ok u w := by
  have hn : 0 ≤ (i : Int) ∧ (i : Int) < (n : Int) := by omega
  simp [Instr.index, run_underlying h, asIntOf, hn, go_sem, hs, ha, hc, hi]
end Go.PM
