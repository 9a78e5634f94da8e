/- DiskPlays is proved: for every room and every row of acts the law returns true, and what came in reads as before. No condition. -/
import Derived.Test.YtdolddgmemlofaaDiskPlays
import Derived.Test.YtdolddgmemlofaaFrame
namespace Go.Proofs.Ytdolddgmemlofaa
open Go.ChangeShapes Go.WideShapes Go.ChangeAt Go.RowKit Go.PM
set_option maxRecDepth 100000

theorem diskPlays_contract (H : Type) (enc : TypeId × Value → H) (W : World) (base : Nat) (args : Array Value) (ds : List (DataW H)) (ps : List MemPlace)
    (hval0 : ∀ (j : Nat) t v, Try.f11.params[j]? = some t → args[j]? = some v → Value.okWide Try.prog W .any base t v)
    (hA : DataW.TrodAll enc Try.prog W 0 (fun _ => true) true Try.f11.params.toList args.toList ds ps) :
    Calls Try.prog 11 args W fun e W' => e = .returned (.bool true) ∧ Kept No W W' := by
  rw [Try.params11] at hA hval0
  obtain ⟨v0, v1, d0, d1, p0, p1, rfl, rfl, rfl, h0, h1⟩ := trodAll_two hA
  obtain ⟨room, rfl, _, _, w0⟩ := open_int Try.underlying3 (hval0 0 3 v0 rfl rfl) h0
  obtain ⟨sa, sn, sc, rfl⟩ := okWide_slice Try.underlying79 (hval0 1 79 v1 rfl rfl)
  obtain ⟨fu1, hf1⟩ := h1
  obtain ⟨a, c, l, e1, hI⟩ := open_dacts hf1
  simp [Value.cells] at e1
  obtain ⟨rfl, rfl, rfl⟩ := e1
  exact dplays_all room _ _ l W hI

theorem DiskPlays_holds : Rows.DiskPlaysSaid :=
  OpenClaim.holds_of_wide 11 Try.f11 rfl rfl rfl rfl rfl rfl rfl ⟨rfl, rfl, rfl, rfl, rfl⟩ rfl rfl rfl rfl rfl (by kernel_rfl) Try.func11 (by kernel_rfl)
    (of_decide_eq_true (by kernel_rfl)) (by unfold Func.isWrapper; first | (rw [if_pos (by decide +kernel)]; kernel_rfl) | (rw [if_neg (by decide +kernel)]; exact ⟨rfl, rfl⟩))
    (fun os started H enc _ => law_lifted 11 Try.f11 Rows.diskPlaysSpec Try.func11 (by kernel_rfl) rfl rfl
      (by rw [Try.params11]; intro t ht; simp at ht; rcases ht with rfl | rfl <;> exact ⟨by kernel_rfl, of_decide_eq_true (by kernel_rfl)⟩)
      (fun H ds hl => by
        rw [Try.params11] at hl
        match ds, hl with
        | [_, _], _ => exact ⟨rfl, rfl, rfl⟩)
      diskPlays_contract os started H enc
      (ChangeSpec.witness6 (enc := enc) (C := Try.checked) false ⟨#[], #[.int .i64 0, .slice none 0 0], []⟩ 8 (by kernel_rfl) (by kernel_rfl) (by kernel_rfl) (by kernel_rfl)))

#print axioms DiskPlays_holds
end Go.Proofs.Ytdolddgmemlofaa
