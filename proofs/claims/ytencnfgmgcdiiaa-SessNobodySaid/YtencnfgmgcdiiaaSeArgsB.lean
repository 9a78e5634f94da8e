/- What a call handed to package parrellaw22's laws reads as. -/
import Derived.Test.YtencnfgmgcdiiaaSeArgs
namespace Go.Proofs.Ytencnfgmgcdiiaa
open Go.ChangeShapes Go.WideShapes Go.ChangeAt Go.RowKit Go.PM
set_option maxRecDepth 100000
theorem Try.cellsSCall : Try.prog.cellsOf 39 = 2 := by kernel_rfl
section
variable {H : Type} {enc : TypeId × Value → H} {W : World} {fuel : Nat} {x : DataW H × List MemPlace} {cs : List Value}
theorem open_scall (h : DataW.trod enc Try.prog W 0 (fun _ => true) true fuel 39 cs = some x) : ∃ (c : UInt8) (s : Int), cs = [.int .u8 c.toNat, .int .u32 s] ∧ 0 ≤ s ∧ s < 4294967296 := by
  obtain ⟨xs, n, _, _, hl, hxs, hf⟩ := DataW.trod_struct Try.underlying39 h
  rw [Try.cellsSCall] at hl
  have hxs' : xs.length = 2 := hxs
  match cs, hl with
  | [c0, c1], _ =>
  have g0 := hf 0 _ rfl
  have g1 := hf 1 _ rfl
  simp only [List.getElem_toArray, List.getElem_cons_zero, List.getElem_cons_succ, Try.scellsByte, Try.scellsU32, List.drop_zero, List.drop_succ_cons, List.take_succ_cons, List.take_zero] at g0 g1
  rw [List.getElem?_eq_getElem (by omega)] at g0 g1
  obtain ⟨k0, e0, _, w0⟩ := DataW.trod_int Try.underlying5 g0
  obtain ⟨k1, e1, _, w1⟩ := DataW.trod_int Try.underlying28 g1
  simp only [List.cons.injEq, and_true] at e0 e1
  obtain ⟨d0, rfl⟩ := u8_of w0
  subst e0; subst e1
  have b1 := bounds_u32 w1
  exact ⟨d0, k1, rfl, b1.1, Int.lt_of_le_of_lt b1.2 (by decide)⟩
end
end Go.Proofs.Ytencnfgmgcdiiaa
