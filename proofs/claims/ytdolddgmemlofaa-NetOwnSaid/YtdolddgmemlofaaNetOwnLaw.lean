/- NetOwn is proved: for every act the law returns true, and what came in reads as before. No condition. -/
import Derived.Test.YtdolddgmemlofaaNetOwnW
import Derived.Test.YtdolddgmemlofaaFrame
namespace Go.Proofs.Ytdolddgmemlofaa
open Go.ChangeShapes Go.WideShapes Go.ChangeAt Go.RowKit Go.PM
set_option maxRecDepth 100000

theorem own_contract (H : Type) (enc : TypeId × Value → H) (W : World) (base : Nat) (args : Array Value) (ds : List (DataW H)) (ps : List MemPlace)
    (hval0 : ∀ (j : Nat) t v, Try.f7.params[j]? = some t → args[j]? = some v → Value.okWide Try.prog W .any base t v)
    (hA : DataW.TrodAll enc Try.prog W 0 (fun _ => true) true Try.f7.params.toList args.toList ds ps) :
    Calls Try.prog 7 args W fun e W' => e = .returned (.bool true) ∧ Kept No W W' := by
  rw [Try.params7] at hA hval0
  obtain ⟨v0, d0, rfl, rfl, h0⟩ := trodAll_one hA
  obtain ⟨cs, rfl⟩ := okWide_agg Try.underlying34 (hval0 0 34 v0 rfl rfl)
  obtain ⟨fu1, hf1⟩ := h0
  obtain ⟨m, e1, hI⟩ := open_act hf1
  obtain rfl : cs = m.cells.toArray := by rw [← e1]; simp [Value.cells]
  by_cases hB : m.b.length ≤ 4000
  · exact own_main m W hB hI
  · exact own_long m W (by omega) hI

theorem NetOwn_holds : Rows.NetOwnSaid :=
  OpenClaim.holds_of_wide 7 Try.f7 rfl rfl rfl rfl rfl rfl rfl ⟨rfl, rfl, rfl, rfl, rfl⟩ rfl rfl rfl rfl rfl (by kernel_rfl) Try.func7 (by kernel_rfl)
    (of_decide_eq_true (by kernel_rfl)) (by unfold Func.isWrapper; first | (rw [if_pos (by decide +kernel)]; kernel_rfl) | (rw [if_neg (by decide +kernel)]; exact ⟨rfl, rfl⟩))
    (fun os started H enc _ => law_lifted 7 Try.f7 Rows.netOwnSpec Try.func7 (by kernel_rfl) rfl rfl
      (by rw [Try.params7]; intro t ht; simp at ht; subst ht; exact ⟨by kernel_rfl, of_decide_eq_true (by kernel_rfl)⟩)
      (fun H ds hl => by
        rw [Try.params7] at hl
        match ds, hl with
        | [_], _ => exact ⟨rfl, rfl, rfl⟩)
      own_contract os started H enc
      (ChangeSpec.witness6 (enc := enc) (C := Try.checked) false ⟨#[], #[.agg #[.int .u8 0, .int .u8 0, .int .u8 0, .int .i64 0, .slice none 0 0]], []⟩ 8 (by kernel_rfl) (by kernel_rfl) (by kernel_rfl) (by kernel_rfl)))

#print axioms NetOwn_holds
end Go.Proofs.Ytdolddgmemlofaa
