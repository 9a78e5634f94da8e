/- RecCodes is proved: for every record the law returns true, and what came in reads as before. No condition. -/
import Derived.Test.YtjfmidcaekhhgaaGreatDoorRfT
import Derived.Test.YtjfmidcaekhhgaaGreatDoorFrameT
import Derived.Test.YtjfmidcaekhhgaaGreatDoorCards
import Derived.Test.YtjfmidcaekhhgaaGreatDoorTie
import Derived.Test.YtjfmidcaekhhgaaGreatDoorArgRec
namespace Go.Proofs.YtjfmidcaekhhgaaGreatDoor
open Go.ChangeShapes Go.WideShapes Go.ChangeAt Go.RowKit Go.PM
set_option maxRecDepth 100000

theorem recCodes_contract (H : Type) (enc : TypeId × Value → H) (W : World) (base : Nat) (args : Array Value) (ds : List (DataW H)) (ps : List MemPlace)
    (hval0 : ∀ (j : Nat) t v, Tryz.f4.params[j]? = some t → args[j]? = some v → Value.okWide Tryz.prog W .any base t v)
    (hA : DataW.TrodAll enc Tryz.prog W 0 (fun _ => true) true Tryz.f4.params.toList args.toList ds ps)
    (hZ : (DataW.weightsEach Tryz.prog Tryz.f4.params.toList ds).all (· ≤ reachBytes) = true) :
    Calls Tryz.prog 4 args W fun e W' => e = .returned (.bool true) ∧ Kept No W W' := by
  rw [Tryz.params4] at hA hval0 hZ
  obtain ⟨v0, d0, rfl, rfl, h0⟩ := trodAll_one hA
  have hv := hval0 0 50 v0 rfl rfl
  obtain ⟨cs, rfl⟩ := okWide_agg Tryz.underlying50 hv
  obtain ⟨fu0, hf0⟩ := h0
  obtain ⟨m, aw, cw, am, cm, e1, hw, hs, hrw, hrm, hle, _⟩ := open_recM hf0 (Light.arg (j := 0) hZ rfl rfl)
  obtain rfl : cs = (recv m aw cw am cm).toArray := by rw [← e1]; simp [Value.cells]
  exact recCodes_calls m hw hs aw cw am cm hrw hrm (okWide_rec hv).1 (okWide_rec hv).2 hle

theorem RecCodes_row : Rows.RecCodesSaid :=
  OpenClaim.holds_of_wide 4 Tryz.f4 rfl rfl rfl rfl rfl rfl rfl ⟨rfl, rfl, rfl, rfl, rfl⟩ rfl rfl rfl rfl rfl (by kernel_rfl) Tryz.func4 (by kernel_rfl)
    (of_decide_eq_true (by kernel_rfl)) (by unfold Func.isWrapper; first | (rw [if_pos (by decide +kernel)]; kernel_rfl) | (rw [if_neg (by decide +kernel)]; exact ⟨rfl, rfl⟩))
    (fun os started H enc _ => law_lifted_laid_sized Rows.recCodesRow.laid 4 Tryz.f4 Rows.recCodesSpec Tryz.func4 (by kernel_rfl) rfl rfl
      (by rw [Tryz.params4]; intro t ht; simp at ht; subst ht; exact ⟨by kernel_rfl, of_decide_eq_true (by kernel_rfl)⟩)
      (fun H ds hl => by
        rw [Tryz.params4] at hl
        match ds, hl with
        | [_], _ => exact ⟨rfl, rfl, rfl⟩)
      recCodes_contract os started H enc
      (ChangeSpec.witness_shaped (enc := enc) (C := Tryz.checked) (os := os) (X := fun w _ => laidMetH Tryz.prog Rows.recCodesRow.laid w) false (World.laidAll Tryz.prog os Rows.recCodesRow.laid) #[.agg #[.int .u8 0, .int .u32 0, .int .u8 0, .int .u32 0, .int .u32 0, .int .u32 0, .int .u32 0, .int .u64 0, .slice none 0 0, .slice none 0 0, .int .u8 0, .int .u8 0, .int .u8 0, .int .u8 0, .int .u8 0, .int .u8 0, .int .u8 0, .int .u8 0, .int .u32 0, .string ⟨#[]⟩, .int .u32 0, .int .u8 0, .int .u8 0, .int .u8 0, .int .u8 0, .int .u8 0, .int .u8 0, .int .u8 0, .int .u8 0, .int .u8 0, .int .u8 0]] 8 (World.laidAll_os _ _ _)
        (World.shaped_of_ZipB (by kernel_rfl) (by kernel_rfl)) (by kernel_rfl) (by kernel_rfl) (by kernel_rfl)
        (by rw [MakeChecks.laidMetH_plain _ _ _ (by kernel_rfl)]; exact laidMet_laidAll _ (by kernel_rfl) (by kernel_rfl))))
theorem RecCodes_holds : Rows.RecCodesCardSaid :=
  Claim7.holds_tied_plain_at .later [] [.data, .pinned] true Rows.recCodesCard.stood.harness false RecCodes_row (fun _ h => by cases h) (by kernel_rfl) (fun _ h => by cases h) recCodes_row_tie rfl ⟨rfl, rfl⟩ (by kernel_rfl) rfl
    (fun f fn hf hfn => by
      obtain rfl : f = 4 := Option.some.inj ((show Tryz.prog.funcNamed "parrel/parrellaw11.RecCodes" = some 4 by kernel_rfl).symm.trans hf) |>.symm
      obtain rfl : fn = Tryz.f4 := (Option.some.inj (Tryz.func4.symm.trans hfn)).symm
      exact ⟨by kernel_rfl, fun j t ht => by
        rw [Tryz.params4] at ht
        have hm : t ∈ [50] := by simpa using Array.mem_of_getElem? ht
        have hall : ([50].all fun u => !Tryz.prog.wantsStandIn u) = true := by kernel_rfl
        exact (show Tryz.prog.wantsStandIn t = false by simpa using List.all_eq_true.1 hall t hm)⟩)
    (by kernel_rfl)
#print axioms RecCodes_holds
end Go.Proofs.YtjfmidcaekhhgaaGreatDoor
