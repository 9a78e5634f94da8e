/- MsgCodes is proved: for every message the law returns true, and what came in reads as before. No condition. -/
import Derived.Test.YtjfmidcaekhhgaaGreatDoorRfO
import Derived.Test.YtjfmidcaekhhgaaGreatDoorFrameT
import Derived.Test.YtjfmidcaekhhgaaGreatDoorCards
import Derived.Test.YtjfmidcaekhhgaaGreatDoorTie
import Derived.Test.YtjfmidcaekhhgaaGreatDoorArgMsg
namespace Go.Proofs.YtjfmidcaekhhgaaGreatDoor
open Go.ChangeShapes Go.WideShapes Go.ChangeAt Go.RowKit Go.PM
set_option maxRecDepth 100000

theorem msgCodes_contract (H : Type) (enc : TypeId × Value → H) (W : World) (base : Nat) (args : Array Value) (ds : List (DataW H)) (ps : List MemPlace)
    (hval0 : ∀ (j : Nat) t v, Tryz.f3.params[j]? = some t → args[j]? = some v → Value.okWide Tryz.prog W .any base t v)
    (hA : DataW.TrodAll enc Tryz.prog W 0 (fun _ => true) true Tryz.f3.params.toList args.toList ds ps)
    (hZ : (DataW.weightsEach Tryz.prog Tryz.f3.params.toList ds).all (· ≤ reachBytes) = true) :
    Calls Tryz.prog 3 args W fun e W' => e = .returned (.bool true) ∧ Kept No W W' := by
  rw [Tryz.params3] at hA hval0 hZ
  obtain ⟨v0, d0, rfl, rfl, h0⟩ := trodAll_one hA
  have hv := hval0 0 35 v0 rfl rfl
  obtain ⟨cs, rfl⟩ := okWide_agg Tryz.underlying35 hv
  obtain ⟨fu0, hf0⟩ := h0
  obtain ⟨m, a, c, e1, hw, hs, hr, hle, _⟩ := open_msgM hf0 (Light.arg (j := 0) hZ rfl rfl)
  obtain rfl : cs = (msgv m a c).toArray := by rw [← e1]; simp [Value.cells]
  exact msgCodes_calls m hw hs a c hr (okWide_msg hw hv) hle

theorem MsgCodes_row : Rows.MsgCodesSaid :=
  OpenClaim.holds_of_wide 3 Tryz.f3 rfl rfl rfl rfl rfl rfl rfl ⟨rfl, rfl, rfl, rfl, rfl⟩ rfl rfl rfl rfl rfl (by kernel_rfl) Tryz.func3 (by kernel_rfl)
    (of_decide_eq_true (by kernel_rfl)) (by unfold Func.isWrapper; first | (rw [if_pos (by decide +kernel)]; kernel_rfl) | (rw [if_neg (by decide +kernel)]; exact ⟨rfl, rfl⟩))
    (fun os started H enc _ => law_lifted_laid_sized Rows.msgCodesRow.laid 3 Tryz.f3 Rows.msgCodesSpec Tryz.func3 (by kernel_rfl) rfl rfl
      (by rw [Tryz.params3]; intro t ht; simp at ht; subst ht; exact ⟨by kernel_rfl, of_decide_eq_true (by kernel_rfl)⟩)
      (fun H ds hl => by
        rw [Tryz.params3] at hl
        match ds, hl with
        | [_], _ => exact ⟨rfl, rfl, rfl⟩)
      msgCodes_contract os started H enc
      (ChangeSpec.witness_shaped (enc := enc) (C := Tryz.checked) (os := os) (X := fun w _ => laidMetH Tryz.prog Rows.msgCodesRow.laid w) false (World.laidAll Tryz.prog os Rows.msgCodesRow.laid) #[.agg #[.int .u8 0, .int .u8 0, .int .u32 0, .int .u32 0, .int .u32 0, .int .u32 0, .int .u32 0, .int .u8 0, .int .u8 0, .int .u8 0, .int .u8 0, .int .u8 0, .int .u8 0, .int .u8 0, .int .u8 0, .int .u8 0, .int .u32 0, .int .u8 0, .int .u8 0, .int .u32 0, .string ⟨#[]⟩, .int .u32 0, .int .u8 0, .int .u8 0, .int .u8 0, .int .u8 0, .int .u8 0, .int .u8 0, .int .u8 0, .int .u8 0, .int .u8 0, .int .u8 0, .slice none 0 0]] 8 (World.laidAll_os _ _ _)
        (World.shaped_of_ZipB (by kernel_rfl) (by kernel_rfl)) (by kernel_rfl) (by kernel_rfl) (by kernel_rfl)
        (by rw [MakeChecks.laidMetH_plain _ _ _ (by kernel_rfl)]; exact laidMet_laidAll _ (by kernel_rfl) (by kernel_rfl))))
theorem MsgCodes_holds : Rows.MsgCodesCardSaid :=
  Claim7.holds_tied_plain_at .later [] [.data, .pinned] true Rows.msgCodesCard.stood.harness false MsgCodes_row (fun _ h => by cases h) (by kernel_rfl) (fun _ h => by cases h) msgCodes_row_tie rfl ⟨rfl, rfl⟩ (by kernel_rfl) rfl
    (fun f fn hf hfn => by
      obtain rfl : f = 3 := Option.some.inj ((show Tryz.prog.funcNamed "parrel/parrellaw10.MsgCodes" = some 3 by kernel_rfl).symm.trans hf) |>.symm
      obtain rfl : fn = Tryz.f3 := (Option.some.inj (Tryz.func3.symm.trans hfn)).symm
      exact ⟨by kernel_rfl, fun j t ht => by
        rw [Tryz.params3] at ht
        have hm : t ∈ [35] := by simpa using Array.mem_of_getElem? ht
        have hall : ([35].all fun u => !Tryz.prog.wantsStandIn u) = true := by kernel_rfl
        exact (show Tryz.prog.wantsStandIn t = false by simpa using List.all_eq_true.1 hall t hm)⟩)
    (by kernel_rfl)
#print axioms MsgCodes_holds
end Go.Proofs.YtjfmidcaekhhgaaGreatDoor
