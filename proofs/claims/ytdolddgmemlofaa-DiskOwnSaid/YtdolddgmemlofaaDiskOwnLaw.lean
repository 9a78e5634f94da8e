/- DiskOwn is proved: for all bytes and every number the law returns true, and what came in reads as before. No condition. -/
import Derived.Test.YtdolddgmemlofaaDiskOwnW
import Derived.Test.YtdolddgmemlofaaFrameR
namespace Go.Proofs.Ytdolddgmemlofaa
open Go.ChangeShapes Go.WideShapes Go.ChangeAt Go.RowKit Go.PM
set_option maxRecDepth 100000

theorem diskOwn_contract (H : Type) (enc : TypeId × Value → H) (W : World) (base : Nat) (args : Array Value) (ds : List (DataW H)) (ps : List MemPlace)
    (hval0 : ∀ (j : Nat) t v, Try.f12.params[j]? = some t → args[j]? = some v → Value.okWide Try.prog W .any base t v)
    (hA : DataW.TrodAll enc Try.prog W 0 (fun _ => true) true Try.f12.params.toList args.toList ds ps)
    (hZ : (DataW.weightsEach Try.prog Try.f12.params.toList ds).all (· ≤ reachBytes) = true) :
    Calls Try.prog 12 args W fun e W' => e = .returned (.bool true) ∧ Kept No W W' := by
  rw [Try.params12] at hA hval0 hZ
  obtain ⟨v0, v1, v2, d0, d1, d2, p0, p1, p2, rfl, rfl, rfl, h0, h1, h2⟩ := trodAll_three hA
  obtain ⟨sa, sn, sc, rfl⟩ := okWide_slice Try.underlying32 (hval0 0 32 v0 rfl rfl)
  obtain ⟨ta, tn, tc, rfl⟩ := okWide_slice Try.underlying32 (hval0 1 32 v1 rfl rfl)
  obtain ⟨nn, rfl, _, _, _⟩ := open_int Try.underlying3 (hval0 2 3 v2 rfl rfl) h2
  obtain ⟨fu0, hf0⟩ := h0
  obtain ⟨fu1, hf1⟩ := h1
  obtain ⟨a, c, l, e0, hI⟩ := open_bytes Try.underlying32 Try.underlying5 Try.dcellsByte hf0
  obtain ⟨a', c', l', e1, hI'⟩ := open_bytes Try.underlying32 Try.underlying5 Try.dcellsByte hf1
  have hb : Try.prog.bytesOf 5 = 1 := by kernel_rfl
  have r0 := bytes_reach (j := 0) Try.underlying32 Try.underlying5 Try.dcellsByte hb hf0 hZ rfl rfl e0
  have r1 := bytes_reach (j := 1) Try.underlying32 Try.underlying5 Try.dcellsByte hb hf1 hZ rfl rfl e1
  simp [Value.cells] at e0 e1
  obtain ⟨rfl, rfl, rfl⟩ := e0
  obtain ⟨rfl, rfl, rfl⟩ := e1
  by_cases hs : l.length + l'.length ≤ 32768
  · exact own_short _ _ _ _ l l' nn W hI hI' hs l.length l'.length rfl rfl
  · exact own_long_d _ _ _ _ _ _ nn W r0 r1 (by omega)

theorem DiskOwn_holds : Rows.DiskOwnSaid :=
  OpenClaim.holds_of_wide 12 Try.f12 rfl rfl rfl rfl rfl rfl rfl ⟨rfl, rfl, rfl, rfl, rfl⟩ rfl rfl rfl rfl rfl (by kernel_rfl) Try.func12 (by kernel_rfl)
    (of_decide_eq_true (by kernel_rfl)) (by unfold Func.isWrapper; first | (rw [if_pos (by decide +kernel)]; kernel_rfl) | (rw [if_neg (by decide +kernel)]; exact ⟨rfl, rfl⟩))
    (fun os started H enc _ => law_lifted_sized 12 Try.f12 Rows.diskOwnSpec Try.func12 (by kernel_rfl) rfl rfl
      (by rw [Try.params12]; intro t ht; simp at ht; rcases ht with rfl | rfl <;> exact ⟨by kernel_rfl, of_decide_eq_true (by kernel_rfl)⟩)
      (fun H ds hl => by
        rw [Try.params12] at hl
        match ds, hl with
        | [_, _, _], _ => exact ⟨rfl, rfl, rfl⟩)
      diskOwn_contract os started H enc
      (ChangeSpec.witness6 (enc := enc) (C := Try.checked) false ⟨#[], #[.slice none 0 0, .slice none 0 0, .int .i64 0], []⟩ 8 (by kernel_rfl) (by kernel_rfl) (by kernel_rfl) (by kernel_rfl)))

#print axioms DiskOwn_holds
end Go.Proofs.Ytdolddgmemlofaa
