/- AvailMost is proved: for every configuration, all chances and every share the law returns true, and what came in reads as before. No condition. -/
import Derived.Test.YtencnfgmgcdiiaaAvMost
import Derived.Test.YtencnfgmgcdiiaaFrame
import Derived.Test.YtencnfgmgcdiiaaAvArgs
namespace Go.Proofs.Ytencnfgmgcdiiaa
open Go.ChangeShapes Go.WideShapes Go.ChangeAt Go.RowKit Go.PM
set_option maxRecDepth 100000

theorem availMost_contract (H : Type) (enc : TypeId × Value → H) (W : World) (base : Nat) (args : Array Value) (ds : List (DataW H)) (ps : List MemPlace)
    (hval0 : ∀ (j : Nat) t v, Try.f13.params[j]? = some t → args[j]? = some v → Value.okWide Try.prog W .any base t v)
    (hA : DataW.TrodAll enc Try.prog W 0 (fun _ => true) true Try.f13.params.toList args.toList ds ps) :
    Calls Try.prog 13 args W fun e W' => e = .returned (.bool true) ∧ Kept No W W' := by
  rw [Try.params13] at hA hval0
  obtain ⟨v0, v1, v2, d0, d1, d2, p0, p1, p2, rfl, rfl, rfl, h0, h1, h2⟩ := trodAll_three hA
  obtain ⟨cs0, rfl⟩ := okWide_agg Try.underlying49 (hval0 0 49 v0 rfl rfl)
  obtain ⟨fu0, hf0⟩ := h0
  obtain ⟨e, r, v, l, e0, hl, he, hr, hv⟩ := open_cfg hf0
  obtain rfl : cs0 = (cfgc e r v l).toArray := by rw [← e0]; simp [Value.cells]
  obtain ⟨cs1, rfl⟩ := okWide_arr Try.underlying47 (hval0 1 47 v1 rfl rfl)
  obtain ⟨fu1, hf1⟩ := h1
  obtain ⟨u1, e1, hu1⟩ := open_arr8 hf1
  obtain rfl : cs1 = (bcells u1).toArray := by rw [← e1]; simp [Value.cells]
  obtain ⟨share, rfl, _, _, w2⟩ := open_int Try.underlying5 (hval0 2 5 v2 rfl rfl) h2
  have b2 := bounds_u8 w2
  exact availMost_calls e r v l u1 share hl hu1 he hr hv b2.1 b2.2

theorem AvailMost_holds : Rows.AvailMostSaid :=
  OpenClaim.holds_of_wide 13 Try.f13 rfl rfl rfl rfl rfl rfl rfl ⟨rfl, rfl, rfl, rfl, rfl⟩ rfl rfl rfl rfl rfl (by kernel_rfl) Try.func13 (by kernel_rfl)
    (of_decide_eq_true (by kernel_rfl)) (by unfold Func.isWrapper; first | (rw [if_pos (by decide +kernel)]; kernel_rfl) | (rw [if_neg (by decide +kernel)]; exact ⟨rfl, rfl⟩))
    (fun os started H enc _ => law_lifted 13 Try.f13 Rows.availMostSpec Try.func13 (by kernel_rfl) rfl rfl
      (by rw [Try.params13]; intro t ht; simp at ht; rcases ht with rfl | rfl | rfl <;> exact ⟨by kernel_rfl, of_decide_eq_true (by kernel_rfl)⟩)
      (fun H ds hl => by
        rw [Try.params13] at hl
        match ds, hl with
        | [_, _, _], _ => exact ⟨rfl, rfl, rfl⟩)
      availMost_contract os started H enc
      (ChangeSpec.witness6 (enc := enc) (C := Try.checked) false ⟨#[], #[.agg #[.int .u32 0, .int .u8 0, .int .u8 0, .int .u8 0, .int .u8 0, .int .u8 0, .int .u8 0, .int .u8 0, .int .u8 0, .int .u8 0, .int .u8 0], .agg #[.int .u8 0, .int .u8 0, .int .u8 0, .int .u8 0, .int .u8 0, .int .u8 0, .int .u8 0, .int .u8 0], .int .u8 0], []⟩ 8 (by kernel_rfl) (by kernel_rfl) (by kernel_rfl) (by kernel_rfl)))

#print axioms AvailMost_holds
end Go.Proofs.Ytencnfgmgcdiiaa
