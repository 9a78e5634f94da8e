/- SessNobody is proved: for every call and every answer the law returns true, and what came in reads as before. No condition. -/
import Derived.Test.YtencnfgmgcdiiaaSeNobody
import Derived.Test.YtencnfgmgcdiiaaFrame
import Derived.Test.YtencnfgmgcdiiaaSeArgsB
namespace Go.Proofs.Ytencnfgmgcdiiaa
open Go.ChangeShapes Go.WideShapes Go.ChangeAt Go.RowKit Go.PM
set_option maxRecDepth 100000

theorem sessNobody_contract (H : Type) (enc : TypeId × Value → H) (W : World) (base : Nat) (args : Array Value) (ds : List (DataW H)) (ps : List MemPlace)
    (hval0 : ∀ (j : Nat) t v, Try.f9.params[j]? = some t → args[j]? = some v → Value.okWide Try.prog W .any base t v)
    (hA : DataW.TrodAll enc Try.prog W 0 (fun _ => true) true Try.f9.params.toList args.toList ds ps) :
    Calls Try.prog 9 args W fun e W' => e = .returned (.bool true) ∧ Kept No W W' := by
  rw [Try.params9] at hA hval0
  obtain ⟨v0, v1, d0, d1, p0, p1, rfl, rfl, rfl, h0, h1⟩ := trodAll_two hA
  obtain ⟨cs0, rfl⟩ := okWide_agg Try.underlying39 (hval0 0 39 v0 rfl rfl)
  obtain ⟨cs1, rfl⟩ := okWide_agg Try.underlying33 (hval0 1 33 v1 rfl rfl)
  obtain ⟨fu0, hf0⟩ := h0
  obtain ⟨fu1, hf1⟩ := h1
  obtain ⟨c, s, e0, hs0, hs1⟩ := open_scall hf0
  obtain ⟨a, e1, _⟩ := open_sans hf1
  obtain rfl : cs0 = #[.int .u8 c.toNat, .int .u32 s] := by rw [← Array.toList_inj]; exact (show cs0.toList = _ from by simpa [Value.cells] using e0)
  obtain rfl : cs1 = a.cells.toArray := by rw [← e1]; simp [Value.cells]
  exact nobody_calls c s a W hs0 hs1

theorem SessNobody_holds : Rows.SessNobodySaid :=
  OpenClaim.holds_of_wide 9 Try.f9 rfl rfl rfl rfl rfl rfl rfl ⟨rfl, rfl, rfl, rfl, rfl⟩ rfl rfl rfl rfl rfl (by kernel_rfl) Try.func9 (by kernel_rfl)
    (of_decide_eq_true (by kernel_rfl)) (by unfold Func.isWrapper; first | (rw [if_pos (by decide +kernel)]; kernel_rfl) | (rw [if_neg (by decide +kernel)]; exact ⟨rfl, rfl⟩))
    (fun os started H enc _ => law_lifted 9 Try.f9 Rows.sessNobodySpec Try.func9 (by kernel_rfl) rfl rfl
      (by rw [Try.params9]; intro t ht; simp at ht; rcases ht with rfl | rfl <;> exact ⟨by kernel_rfl, of_decide_eq_true (by kernel_rfl)⟩)
      (fun H ds hl => by
        rw [Try.params9] at hl
        match ds, hl with
        | [_, _], _ => exact ⟨rfl, rfl, rfl⟩)
      sessNobody_contract os started H enc
      (ChangeSpec.witness6 (enc := enc) (C := Try.checked) false ⟨#[], #[.agg #[.int .u8 0, .int .u32 0], .agg #[.int .i64 0, .int .u8 0, .int .u32 0, .int .u32 0, .string ⟨#[]⟩, .int .u32 0]], []⟩ 8 (by kernel_rfl) (by kernel_rfl) (by kernel_rfl) (by kernel_rfl)))

#print axioms SessNobody_holds
end Go.Proofs.Ytencnfgmgcdiiaa
