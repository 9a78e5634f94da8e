/- DiskForced is proved: for all rows of acts and every last one the law returns true, and what came in reads as before. No condition. -/
import Derived.Test.YtdolddgmemlofaaDiskForced
import Derived.Test.YtdolddgmemlofaaFrame
namespace Go.Proofs.Ytdolddgmemlofaa
open Go.ChangeShapes Go.WideShapes Go.ChangeAt Go.RowKit Go.PM
set_option maxRecDepth 100000

theorem diskForced_contract (H : Type) (enc : TypeId × Value → H) (W : World) (base : Nat) (args : Array Value) (ds : List (DataW H)) (ps : List MemPlace)
    (hval0 : ∀ (j : Nat) t v, Try.f10.params[j]? = some t → args[j]? = some v → Value.okWide Try.prog W .any base t v)
    (hA : DataW.TrodAll enc Try.prog W 0 (fun _ => true) true Try.f10.params.toList args.toList ds ps) :
    Calls Try.prog 10 args W fun e W' => e = .returned (.bool true) ∧ Kept No W W' := by
  rw [Try.params10] at hA hval0
  obtain ⟨v0, v1, v2, d0, d1, d2, p0, p1, p2, rfl, rfl, rfl, h0, h1, h2⟩ := trodAll_three hA
  obtain ⟨sa, sn, sc, rfl⟩ := okWide_slice Try.underlying79 (hval0 0 79 v0 rfl rfl)
  obtain ⟨ta, tn, tc, rfl⟩ := okWide_slice Try.underlying79 (hval0 1 79 v1 rfl rfl)
  obtain ⟨cs, rfl⟩ := okWide_agg Try.underlying83 (hval0 2 83 v2 rfl rfl)
  obtain ⟨fu0, hf0⟩ := h0
  obtain ⟨fu1, hf1⟩ := h1
  obtain ⟨fu2, hf2⟩ := h2
  obtain ⟨a, c, l, e0, hI⟩ := open_dacts hf0
  obtain ⟨a', c', l', e1, hI'⟩ := open_dacts hf1
  obtain ⟨x, e2, hx⟩ := open_dact hf2
  obtain rfl : cs = x.cells.toArray := by rw [← e2]; simp [Value.cells]
  simp [Value.cells] at e0 e1
  obtain ⟨rfl, rfl, rfl⟩ := e0
  obtain ⟨rfl, rfl, rfl⟩ := e1
  exact forced_all _ _ _ _ l l' x W hI hI' hx

theorem DiskForced_holds : Rows.DiskForcedSaid :=
  OpenClaim.holds_of_wide 10 Try.f10 rfl rfl rfl rfl rfl rfl rfl ⟨rfl, rfl, rfl, rfl, rfl⟩ rfl rfl rfl rfl rfl (by kernel_rfl) Try.func10 (by kernel_rfl)
    (of_decide_eq_true (by kernel_rfl)) (by unfold Func.isWrapper; first | (rw [if_pos (by decide +kernel)]; kernel_rfl) | (rw [if_neg (by decide +kernel)]; exact ⟨rfl, rfl⟩))
    (fun os started H enc _ => law_lifted 10 Try.f10 Rows.diskForcedSpec Try.func10 (by kernel_rfl) rfl rfl
      (by rw [Try.params10]; intro t ht; simp at ht; rcases ht with rfl | rfl <;> exact ⟨by kernel_rfl, of_decide_eq_true (by kernel_rfl)⟩)
      (fun H ds hl => by
        rw [Try.params10] at hl
        match ds, hl with
        | [_, _, _], _ => exact ⟨rfl, rfl, rfl⟩)
      diskForced_contract os started H enc
      (ChangeSpec.witness6 (enc := enc) (C := Try.checked) false ⟨#[], #[.slice none 0 0, .slice none 0 0, .agg #[.int .u8 0, .int .i64 0, .slice none 0 0, .bool false]], []⟩ 8 (by kernel_rfl) (by kernel_rfl) (by kernel_rfl) (by kernel_rfl)))

#print axioms DiskForced_holds
end Go.Proofs.Ytdolddgmemlofaa
