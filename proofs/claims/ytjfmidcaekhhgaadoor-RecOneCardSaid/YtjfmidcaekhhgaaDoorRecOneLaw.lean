/- RecOne is proved: for all bytes the law returns true, and what came in reads as before. No condition. -/
import Derived.Test.YtjfmidcaekhhgaaDoorRcV
import Derived.Test.YtjfmidcaekhhgaaDoorFrameT
import Derived.Test.YtjfmidcaekhhgaaDoorCards
import Derived.Test.YtjfmidcaekhhgaaDoorTie
import Derived.Test.YtjfmidcaekhhgaaDoorArgsA
namespace Go.Proofs.YtjfmidcaekhhgaaDoor
open Go.ChangeShapes Go.WideShapes Go.ChangeAt Go.RowKit Go.PM
set_option maxRecDepth 100000

theorem recOne_contract (H : Type) (enc : TypeId × Value → H) (W : World) (base : Nat) (args : Array Value) (ds : List (DataW H)) (ps : List MemPlace)
    (hval0 : ∀ (j : Nat) t v, Tryd.f5.params[j]? = some t → args[j]? = some v → Value.okWide Tryd.prog W .any base t v)
    (hA : DataW.TrodAll enc Tryd.prog W 0 (fun _ => true) true Tryd.f5.params.toList args.toList ds ps) :
    Calls Tryd.prog 5 args W fun e W' => e = .returned (.bool true) ∧ Kept No W W' := by
  rw [Tryd.params5] at hA hval0
  obtain ⟨v0, d0, rfl, rfl, h0⟩ := trodAll_one hA
  obtain ⟨sa, sn, sc, rfl⟩ := okWide_slice Tryd.underlying38 (hval0 0 38 v0 rfl rfl)
  obtain ⟨fu0, hf0⟩ := h0
  obtain ⟨a, c, l, e0, hI⟩ := open_bytes Tryd.underlying38 Tryd.underlying5 (by kernel_rfl) hf0
  simp [Value.cells] at e0
  obtain ⟨rfl, rfl, rfl⟩ := e0
  exact recOne_calls l _ rfl _ _ hI.rd hI.nil

theorem RecOne_row : Rows.RecOneSaid :=
  OpenClaim.holds_of_wide 5 Tryd.f5 rfl rfl rfl rfl rfl rfl rfl ⟨rfl, rfl, rfl, rfl, rfl⟩ rfl rfl rfl rfl rfl (by kernel_rfl) Tryd.func5 (by kernel_rfl)
    (of_decide_eq_true (by kernel_rfl)) (by unfold Func.isWrapper; first | (rw [if_pos (by decide +kernel)]; kernel_rfl) | (rw [if_neg (by decide +kernel)]; exact ⟨rfl, rfl⟩))
    (fun os started H enc _ => law_lifted_laid Rows.recOneRow.laid 5 Tryd.f5 Rows.recOneSpec Tryd.func5 (by kernel_rfl) rfl rfl
      (by rw [Tryd.params5]; intro t ht; simp at ht; subst ht; exact ⟨by kernel_rfl, of_decide_eq_true (by kernel_rfl)⟩)
      (fun H ds hl => by
        rw [Tryd.params5] at hl
        match ds, hl with
        | [_], _ => exact ⟨rfl, rfl, rfl⟩)
      recOne_contract os started H enc
      (ChangeSpec.witness_shaped (enc := enc) (C := Tryd.checked) (os := os) (X := fun w _ => laidMetH Tryd.prog Rows.recOneRow.laid w) false (World.laidAll Tryd.prog os Rows.recOneRow.laid) #[.slice none 0 0] 8 (World.laidAll_os _ _ _)
        (World.shaped_of_ZipB (by kernel_rfl) (by kernel_rfl)) (by kernel_rfl) (by kernel_rfl) (by kernel_rfl)
        (by rw [MakeChecks.laidMetH_plain _ _ _ (by kernel_rfl)]; exact laidMet_laidAll _ (by kernel_rfl) (by kernel_rfl))))
theorem RecOne_holds : Rows.RecOneCardSaid :=
  Claim7.holds_tied_plain_at .later [] [.data, .pinned] true Rows.recOneCard.stood.harness false RecOne_row (fun _ h => by cases h) (by kernel_rfl) (fun _ h => by cases h) recOne_row_tie rfl ⟨rfl, rfl⟩ (by kernel_rfl) rfl
    (fun f fn hf hfn => by
      obtain rfl : f = 5 := Option.some.inj ((show Tryd.prog.funcNamed "parrel/parrellaw11.RecOne" = some 5 by kernel_rfl).symm.trans hf) |>.symm
      obtain rfl : fn = Tryd.f5 := (Option.some.inj (Tryd.func5.symm.trans hfn)).symm
      exact ⟨by kernel_rfl, fun j t ht => by
        rw [Tryd.params5] at ht
        have hm : t ∈ [38] := by simpa using Array.mem_of_getElem? ht
        have hall : ([38].all fun u => !Tryd.prog.wantsStandIn u) = true := by kernel_rfl
        exact (show Tryd.prog.wantsStandIn t = false by simpa using List.all_eq_true.1 hall t hm)⟩)
    (by kernel_rfl)
#print axioms RecOne_holds
end Go.Proofs.YtjfmidcaekhhgaaDoor
