/- What the arguments of package parrellaw29's laws read as: configurations and rows of eight bytes. -/
import Derived.Test.YtencnfgmgcdiiaaAvB
import Derived.Test.YtencnfgmgcdiiaaArgs
namespace Go.Proofs.Ytencnfgmgcdiiaa
open Go.ChangeShapes Go.WideShapes Go.ChangeAt Go.RowKit Go.PM
set_option maxRecDepth 100000

theorem Try.cellsCfg : Try.prog.cellsOf 49 = 11 := by kernel_rfl
theorem Try.cellsArr8 : Try.prog.cellsOf 47 = 8 := by kernel_rfl
theorem Try.acellsByte : Try.prog.cellsOf 5 = 1 := by kernel_rfl
theorem Try.acellsU32 : Try.prog.cellsOf 28 = 1 := by kernel_rfl

theorem okWide_arr {W : World} {b t n e : Nat} {v : Value} (ht : Try.prog.underlying t = some (.array n e)) (h : Value.okWide Try.prog W .any b t v) : ∃ cs, v = .agg cs := by
  unfold Value.okWide at h
  rw [ht] at h
  obtain ⟨cs, e, _⟩ := h
  exact ⟨cs, e⟩

section
variable {H : Type} {enc : TypeId × Value → H} {W : World} {fuel : Nat} {x : DataW H × List MemPlace} {cs : List Value}

theorem open_u8s (n : Nat) (T : TypeId) (hT : Try.prog.underlying T = some (.array n 5)) (hn : Try.prog.cellsOf T = n) (h : DataW.trod enc Try.prog W 0 (fun _ => true) true fuel T cs = some x) : ∃ l : List UInt8, cs = bcells l ∧ l.length = n := by
  obtain ⟨xs, m, _, _, hl, hxs, hf⟩ := DataW.trod_array hT h
  rw [hn] at hl
  have key : ∀ j, j < n → ∃ b : UInt8, cs[j]? = some (.int .u8 b.toNat) := by
    intro j hj
    have g := hf j hj
    rw [Try.acellsByte, Nat.mul_one, List.getElem?_eq_getElem (by omega)] at g
    obtain ⟨k, e0, _, w0⟩ := DataW.trod_int Try.underlying5 g
    have b0 := bounds_u8 w0
    refine ⟨UInt8.ofNat k.toNat, ?_⟩
    have h1 : cs[j]? = some (.int .u8 k) := by
      have h2 : ((cs.drop j).take 1)[0]? = some (.int .u8 k) := by rw [e0]; rfl
      rw [List.getElem?_take] at h2
      simpa using h2
    rw [h1]
    have e : ((UInt8.ofNat k.toNat).toNat : Int) = k := by
      rw [UInt8.toNat_ofNat']
      omega
    rw [e]
  refine ⟨(List.finRange n).map fun j => Classical.choose (key j.1 j.2), ?_, by simp⟩
  apply List.ext_getElem?
  intro j
  by_cases hj : j < n
  · have h1 := Classical.choose_spec (key j hj)
    rw [h1]
    simp [bcells, hj]
  · rw [List.getElem?_eq_none (by omega), List.getElem?_eq_none (by simp; omega)]

theorem open_arr8 (h : DataW.trod enc Try.prog W 0 (fun _ => true) true fuel 47 cs = some x) : ∃ l : List UInt8, cs = bcells l ∧ l.length = 8 := open_u8s 8 _ Try.underlying47 Try.cellsArr8 h

theorem open_cfg (h : DataW.trod enc Try.prog W 0 (fun _ => true) true fuel 49 cs = some x) : ∃ (e r v : Nat) (l : List UInt8), cs = cfgc e r v l ∧ l.length = 8 ∧ e < 4294967296 ∧ r < 256 ∧ v < 256 := by
  obtain ⟨xs, n, _, _, hl, hxs, hf⟩ := DataW.trod_struct Try.underlying49 h
  rw [Try.cellsCfg] at hl
  have hxs' : xs.length = 4 := hxs
  have g0 := hf 0 _ rfl
  have g1 := hf 1 _ rfl
  have g2 := hf 2 _ rfl
  have g3 := hf 3 _ rfl
  match cs, hl with
  | [a0, a1, a2, a3, a4, a5, a6, a7, a8, a9, a10], _ =>
  simp only [List.getElem_toArray, List.getElem_cons_zero, List.getElem_cons_succ, Try.acellsByte, Try.acellsU32, Try.cellsArr8, List.drop_zero, List.drop_succ_cons, List.take_succ_cons, List.take_zero] at g0 g1 g2 g3
  rw [List.getElem?_eq_getElem (by omega)] at g0 g1 g2 g3
  obtain ⟨k, e0, _, w0⟩ := DataW.trod_int Try.underlying28 g0
  obtain ⟨i, e1, _, w1⟩ := DataW.trod_int Try.underlying5 g1
  obtain ⟨j, e2, _, w2⟩ := DataW.trod_int Try.underlying5 g2
  obtain ⟨l, e3, hl3⟩ := open_arr8 g3
  simp only [List.cons.injEq, and_true] at e0 e1 e2
  subst e0; subst e1; subst e2
  have b0 := bounds_u32 w0
  have b1 := bounds_u8 w1
  have b2 := bounds_u8 w2
  refine ⟨k.toNat, i.toNat, j.toNat, l, ?_, hl3, by omega, by omega, by omega⟩
  rw [cfgc, ← e3, show ((k.toNat : Nat) : Int) = k by omega, show ((i.toNat : Nat) : Int) = i by omega, show ((j.toNat : Nat) : Int) = j by omega]
end
end Go.Proofs.Ytencnfgmgcdiiaa
