/- maps.Keys of a desk's map, collected. -/
import Derived.Test.YtencnfgmgcdiiaaSeF
import Derived.Maps.OwnSet
namespace Go.Proofs.Ytencnfgmgcdiiaa
open Go.RowKit Go.PM Go.Maps Go.Shelf

set_option maxRecDepth 100000 in
set_option maxHeartbeats 400000 in
theorem keys_calls (w : World) (b : Nat) :
    Calls Try.prog 52 #[.map (some b)] w fun e w' =>
      e = .returned (.func (.func 66) #[] #[.pointer (some ⟨w.heap.size, 0, none⟩)]) ∧ w' = w.alloc (.cells #[.map (some b)] 77) := by
  go_enter Try.func52, Try.ntmps52
  go_wp2
  go_ret
  exact ⟨rfl, rfl⟩

theorem Try.enters66 : ∀ args w, (callFunc 66 args).run Try.prog w = .ok (.enter 66 args) w :=
  enters_of Try.func66 (by kernel_rfl) rfl

/-- The keys, collected: in some order, each once. -/
theorem collect_calls {ν : Type} {ev : ν → Value} (w : World) (Bm b : Nat) (D : List (UInt8 × ν)) (hl : D.length ≤ 256) (hBm : w.cell? ⟨Bm, 0, none⟩ = some (.map (some b))) (hM : MapR w b ekB ev D) :
    Calls Try.prog 65 #[.func (.func 66) #[] #[.pointer (some ⟨Bm, 0, none⟩)]] w fun e w' =>
      ∃ (v : Value) (ss : List UInt8), e = .returned v ∧ (ss.Nodup ∧ ∀ x, x ∈ ss ↔ x ∈ D.map (·.1)) ∧ w'.ownsRow w.heap.size 5 1 v ss.length (ss.map ekb) ∧ (v = .slice none 0 0 ↔ ss = []) ∧ Below w.heap.size w w' := by
  obtain ⟨DM, hown, hhas⟩ := hM.owns Try.su_byte (by unfold maxLen; omega)
  refine (callsIn_wide (n := 9)).1 ?_
  refine (collect_in _ 9 trivial trivial rfl (by omega) _ _ trivial Try.enters66 _ _ (Maps.size DM) ?_ w (keys_stops _ _ trivial rfl (by omega) Bm b _ DM w (World.block_lt_of_cell? w _ hBm) hBm hown)).mono ?_
  · exact Nat.le_trans hown.size_le hl
  · rintro e w' ⟨v, ss, rfl, ⟨h1, h2⟩, h3, h4, h5⟩
    exact ⟨v, ss, rfl, ⟨h1, fun x => (h2 x).trans (hhas x)⟩, h3, h4, h5⟩
end Go.Proofs.Ytencnfgmgcdiiaa
