/- DiskFull is proved: for every room, every row of parts and every cut the law returns true, and what came in reads as before. No condition. -/
import Derived.Test.YtdolddgmemlofaaDiskFull
import Derived.Test.YtdolddgmemlofaaFrame
namespace Go.Proofs.Ytdolddgmemlofaa
open Go.ChangeShapes Go.WideShapes Go.ChangeAt Go.RowKit Go.PM
set_option maxRecDepth 100000

theorem diskFull_contract (H : Type) (enc : TypeId × Value → H) (W : World) (base : Nat) (args : Array Value) (ds : List (DataW H)) (ps : List MemPlace)
    (hval0 : ∀ (j : Nat) t v, Try.f8.params[j]? = some t → args[j]? = some v → Value.okWide Try.prog W .any base t v)
    (hA : DataW.TrodAll enc Try.prog W 0 (fun _ => true) true Try.f8.params.toList args.toList ds ps) :
    Calls Try.prog 8 args W fun e W' => e = .returned (.bool true) ∧ Kept No W W' := by
  rw [Try.params8] at hA hval0
  obtain ⟨v0, v1, v2, d0, d1, d2, p0, p1, p2, rfl, rfl, rfl, h0, h1, h2⟩ := trodAll_three hA
  obtain ⟨room, rfl, _, _, w0⟩ := open_int Try.underlying68 (hval0 0 68 v0 rfl rfl) h0
  obtain ⟨sa, sn, sc, rfl⟩ := okWide_slice Try.underlying69 (hval0 1 69 v1 rfl rfl)
  obtain ⟨fu1, hf1⟩ := h1
  obtain ⟨a, c, l, e1, hI⟩ := open_intl Try.underlying69 Try.underlying68 Try.dcellsU16 hf1
  obtain ⟨cut, rfl, _, _, w2⟩ := open_int Try.underlying68 (hval0 2 68 v2 rfl rfl) h2
  have b0 := bounds_u16 w0
  have b2 := bounds_u16 w2
  simp [Value.cells] at e1
  obtain ⟨rfl, rfl, rfl⟩ := e1
  exact full_calls room cut _ _ l W hI b0.1 b0.2 b2.1 b2.2

theorem DiskFull_holds : Rows.DiskFullSaid :=
  OpenClaim.holds_of_wide 8 Try.f8 rfl rfl rfl rfl rfl rfl rfl ⟨rfl, rfl, rfl, rfl, rfl⟩ rfl rfl rfl rfl rfl (by kernel_rfl) Try.func8 (by kernel_rfl)
    (of_decide_eq_true (by kernel_rfl)) (by unfold Func.isWrapper; first | (rw [if_pos (by decide +kernel)]; kernel_rfl) | (rw [if_neg (by decide +kernel)]; exact ⟨rfl, rfl⟩))
    (fun os started H enc _ => law_lifted 8 Try.f8 Rows.diskFullSpec Try.func8 (by kernel_rfl) rfl rfl
      (by rw [Try.params8]; intro t ht; simp at ht; rcases ht with rfl | rfl | rfl <;> exact ⟨by kernel_rfl, of_decide_eq_true (by kernel_rfl)⟩)
      (fun H ds hl => by
        rw [Try.params8] at hl
        match ds, hl with
        | [_, _, _], _ => exact ⟨rfl, rfl, rfl⟩)
      diskFull_contract os started H enc
      (ChangeSpec.witness6 (enc := enc) (C := Try.checked) false ⟨#[], #[.int .u16 0, .slice none 0 0, .int .u16 0], []⟩ 8 (by kernel_rfl) (by kernel_rfl) (by kernel_rfl) (by kernel_rfl)))

#print axioms DiskFull_holds
end Go.Proofs.Ytdolddgmemlofaa
