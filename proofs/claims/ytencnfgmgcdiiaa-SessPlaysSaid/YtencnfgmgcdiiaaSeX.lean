/- slices.Sorted over a desk's keys, at most twelve. -/
import Derived.Test.YtencnfgmgcdiiaaSeW
import Derived.Test.YtencnfgmgcdiiaaSeG
namespace Go.Proofs.Ytencnfgmgcdiiaa
open Go.RowKit Go.PM

/-- A slice of bytes that the call has laid: nil, or its own block. -/
def BSl (w0 w : World) (v : Value) (S : List UInt8) : Prop :=
  (v = .slice none 0 0 ∧ S = []) ∨ ∃ g cap tail, v = .slice (some ⟨g, 0, none⟩) S.length cap ∧ w0.heap.size ≤ g ∧ Blk w g 5 (bcells S ++ tail)
theorem BSl.ofOwns {w0 w : World} {v : Value} {ss : List UInt8} (h : w.ownsRow w0.heap.size 5 1 v ss.length (ss.map ekb)) : BSl w0 w v ss := by
  rcases h.2 with ⟨h1, h2⟩ | ⟨g, cap, cur, h1, h2, h3, h4, h5, h6, h7⟩
  · exact .inl ⟨h1, List.length_eq_zero_iff.1 h2⟩
  · refine .inr ⟨g, cap, cur.toList.drop (ss.length * 1), h1, h2, ?_⟩
    have e : bcells ss = ss.map ekb := rfl
    unfold Blk
    rw [e, ← h7, List.take_append_drop]
    simpa using h3
end Go.Proofs.Ytencnfgmgcdiiaa
