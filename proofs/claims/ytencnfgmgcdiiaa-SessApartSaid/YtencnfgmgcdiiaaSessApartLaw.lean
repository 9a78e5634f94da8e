/- SessApart is proved: for every row of acts and every client the law returns true, and what came in reads as before. No condition. -/
import Derived.Test.YtencnfgmgcdiiaaSeApart
import Derived.Test.YtencnfgmgcdiiaaFrame
namespace Go.Proofs.Ytencnfgmgcdiiaa
open Go.ChangeShapes Go.WideShapes Go.ChangeAt Go.RowKit Go.PM
set_option maxRecDepth 100000

theorem sessApart_contract (H : Type) (enc : TypeId × Value → H) (W : World) (base : Nat) (args : Array Value) (ds : List (DataW H)) (ps : List MemPlace)
    (hval0 : ∀ (j : Nat) t v, Try.f8.params[j]? = some t → args[j]? = some v → Value.okWide Try.prog W .any base t v)
    (hA : DataW.TrodAll enc Try.prog W 0 (fun _ => true) true Try.f8.params.toList args.toList ds ps) :
    Calls Try.prog 8 args W fun e W' => e = .returned (.bool true) ∧ Kept No W W' := by
  rw [Try.params8] at hA hval0
  obtain ⟨v0, v1, d0, d1, p0, p1, rfl, rfl, rfl, h0, h1⟩ := trodAll_two hA
  obtain ⟨sa, sn, sc, rfl⟩ := okWide_slice Try.underlying22 (hval0 0 22 v0 rfl rfl)
  obtain ⟨fu0, hf0⟩ := h0
  obtain ⟨a, c, l, e1, hI⟩ := open_sacts hf0
  simp [Value.cells] at e1
  obtain ⟨rfl, rfl, rfl⟩ := e1
  obtain ⟨cl, rfl, _, _, w2⟩ := open_int Try.underlying5 (hval0 1 5 v1 rfl rfl) h1
  obtain ⟨cb, rfl⟩ := u8_of w2
  exact apart_calls _ _ l cb W hI

theorem SessApart_holds : Rows.SessApartSaid :=
  OpenClaim.holds_of_wide 8 Try.f8 rfl rfl rfl rfl rfl rfl rfl ⟨rfl, rfl, rfl, rfl, rfl⟩ rfl rfl rfl rfl rfl (by kernel_rfl) Try.func8 (by kernel_rfl)
    (of_decide_eq_true (by kernel_rfl)) (by unfold Func.isWrapper; first | (rw [if_pos (by decide +kernel)]; kernel_rfl) | (rw [if_neg (by decide +kernel)]; exact ⟨rfl, rfl⟩))
    (fun os started H enc _ => law_lifted 8 Try.f8 Rows.sessApartSpec Try.func8 (by kernel_rfl) rfl rfl
      (by rw [Try.params8]; intro t ht; simp at ht; rcases ht with rfl | rfl <;> exact ⟨by kernel_rfl, of_decide_eq_true (by kernel_rfl)⟩)
      (fun H ds hl => by
        rw [Try.params8] at hl
        match ds, hl with
        | [_, _], _ => exact ⟨rfl, rfl, rfl⟩)
      sessApart_contract os started H enc
      (ChangeSpec.witness6 (enc := enc) (C := Try.checked) false ⟨#[], #[.slice none 0 0, .int .u8 0], []⟩ 8 (by kernel_rfl) (by kernel_rfl) (by kernel_rfl) (by kernel_rfl)))

#print axioms SessApart_holds
end Go.Proofs.Ytencnfgmgcdiiaa
