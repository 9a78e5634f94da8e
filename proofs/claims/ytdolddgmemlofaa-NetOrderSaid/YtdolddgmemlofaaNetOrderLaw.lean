/- NetOrder is proved: for every number and every act the law returns true, and what came in reads as before. No condition. -/
import Derived.Test.YtdolddgmemlofaaNetOrder
import Derived.Test.YtdolddgmemlofaaFrame
namespace Go.Proofs.Ytdolddgmemlofaa
open Go.ChangeShapes Go.WideShapes Go.ChangeAt Go.RowKit Go.PM
set_option maxRecDepth 100000

theorem order_contract (H : Type) (enc : TypeId × Value → H) (W : World) (base : Nat) (args : Array Value) (ds : List (DataW H)) (ps : List MemPlace)
    (hval0 : ∀ (j : Nat) t v, Try.f4.params[j]? = some t → args[j]? = some v → Value.okWide Try.prog W .any base t v)
    (hA : DataW.TrodAll enc Try.prog W 0 (fun _ => true) true Try.f4.params.toList args.toList ds ps) :
    Calls Try.prog 4 args W fun e W' => e = .returned (.bool true) ∧ Kept No W W' := by
  rw [Try.params4] at hA hval0
  obtain ⟨v0, v1, d0, d1, p0, p1, rfl, rfl, rfl, h0, h1⟩ := trodAll_two hA
  obtain ⟨many, rfl, _, _, w0⟩ := open_int Try.underlying5 (hval0 0 5 v0 rfl rfl) h0
  obtain ⟨cs, rfl⟩ := okWide_agg Try.underlying34 (hval0 1 34 v1 rfl rfl)
  obtain ⟨fu1, hf1⟩ := h1
  obtain ⟨m, e1, hI⟩ := open_act hf1
  have b0 := bounds_u8 w0
  obtain rfl : cs = m.cells.toArray := by rw [← e1]; simp [Value.cells]
  obtain ⟨k, hk⟩ : ∃ k : Nat, many % 30 + 1 = k := ⟨(many % 30 + 1).toNat, by omega⟩
  have hkp : (0 : Int) < k := by omega
  obtain ⟨i', hi'⟩ : ∃ i' : Nat, (m.i.tmod k + k) % k = i' := ⟨((m.i.tmod k + k) % k).toNat, by have := Int.emod_nonneg (m.i.tmod k + k) (by omega : (k : Int) ≠ 0); omega⟩
  by_cases hB : m.b.length ≤ 5000
  · exact order_main many m W hB hI b0.1 b0.2 k i' hk hi'
  · exact order_long many m W (by omega) hI

theorem NetOrder_holds : Rows.NetOrderSaid :=
  OpenClaim.holds_of_wide 4 Try.f4 rfl rfl rfl rfl rfl rfl rfl ⟨rfl, rfl, rfl, rfl, rfl⟩ rfl rfl rfl rfl rfl (by kernel_rfl) Try.func4 (by kernel_rfl)
    (of_decide_eq_true (by kernel_rfl)) (by unfold Func.isWrapper; first | (rw [if_pos (by decide +kernel)]; kernel_rfl) | (rw [if_neg (by decide +kernel)]; exact ⟨rfl, rfl⟩))
    (fun os started H enc _ => law_lifted 4 Try.f4 Rows.netOrderSpec Try.func4 (by kernel_rfl) rfl rfl
      (by rw [Try.params4]; intro t ht; simp at ht; rcases ht with rfl | rfl <;> exact ⟨by kernel_rfl, of_decide_eq_true (by kernel_rfl)⟩)
      (fun H ds hl => by
        rw [Try.params4] at hl
        match ds, hl with
        | [_, _], _ => exact ⟨rfl, rfl, rfl⟩)
      order_contract os started H enc
      (ChangeSpec.witness6 (enc := enc) (C := Try.checked) false ⟨#[], #[.int .u8 0, .agg #[.int .u8 0, .int .u8 0, .int .u8 0, .int .i64 0, .slice none 0 0]], []⟩ 8 (by kernel_rfl) (by kernel_rfl) (by kernel_rfl) (by kernel_rfl)))

#print axioms NetOrder_holds
end Go.Proofs.Ytdolddgmemlofaa
