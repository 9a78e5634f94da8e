/- RecMay is proved: for every two records the law returns true, and what came in reads as before. No condition. -/
import Derived.Test.YtjfmidcaekhhgaaGreatDoorRfU
import Derived.Test.YtjfmidcaekhhgaaGreatDoorFrameT
import Derived.Test.YtjfmidcaekhhgaaGreatDoorCards
import Derived.Test.YtjfmidcaekhhgaaGreatDoorTie
import Derived.Test.YtjfmidcaekhhgaaGreatDoorArgRec
namespace Go.Proofs.YtjfmidcaekhhgaaGreatDoor
open Go.ChangeShapes Go.WideShapes Go.ChangeAt Go.RowKit Go.PM
set_option maxRecDepth 100000

theorem recMay_contract (H : Type) (enc : TypeId × Value → H) (W : World) (base : Nat) (args : Array Value) (ds : List (DataW H)) (ps : List MemPlace)
    (hval0 : ∀ (j : Nat) t v, Tryz.f6.params[j]? = some t → args[j]? = some v → Value.okWide Tryz.prog W .any base t v)
    (hA : DataW.TrodAll enc Tryz.prog W 0 (fun _ => true) true Tryz.f6.params.toList args.toList ds ps)
    (hZ : (DataW.weightsEach Tryz.prog Tryz.f6.params.toList ds).all (· ≤ reachBytes) = true) :
    Calls Tryz.prog 6 args W fun e W' => e = .returned (.bool true) ∧ Kept No W W' := by
  rw [Tryz.params6] at hA hval0 hZ
  obtain ⟨v0, v1, d0, d1, p0, p1, rfl, rfl, rfl, h0, h1⟩ := trodAll_two hA
  have hv := hval0 0 50 v0 rfl rfl
  have hu := hval0 1 50 v1 rfl rfl
  obtain ⟨cs, rfl⟩ := okWide_agg Tryz.underlying50 hv
  obtain ⟨ds, rfl⟩ := okWide_agg Tryz.underlying50 hu
  obtain ⟨fu0, hf0⟩ := h0
  obtain ⟨fu1, hf1⟩ := h1
  obtain ⟨m, aw, cw, am, cm, e1, hw, hs, hrw, hrm, hle, _⟩ := open_recM hf0 (Light.arg (j := 0) hZ rfl rfl)
  obtain ⟨y, bw, dw, bm, dm, e2, hw2, hs2, hrw2, hrm2, hle2, _⟩ := open_recM hf1 (Light.arg (j := 1) hZ rfl rfl)
  obtain rfl : cs = (recv m aw cw am cm).toArray := by rw [← e1]; simp [Value.cells]
  obtain rfl : ds = (recv y bw dw bm dm).toArray := by rw [← e2]; simp [Value.cells]
  exact recMay_calls m y hw hw2 hs hs2 aw cw am cm bw dw bm dm hrw hrm hrw2 hrm2 (okWide_rec hv).1 (okWide_rec hv).2 (okWide_rec hu).1 (okWide_rec hu).2 hle hle2

theorem RecMay_row : Rows.RecMaySaid :=
  OpenClaim.holds_of_wide 6 Tryz.f6 rfl rfl rfl rfl rfl rfl rfl ⟨rfl, rfl, rfl, rfl, rfl⟩ rfl rfl rfl rfl rfl (by kernel_rfl) Tryz.func6 (by kernel_rfl)
    (of_decide_eq_true (by kernel_rfl)) (by unfold Func.isWrapper; first | (rw [if_pos (by decide +kernel)]; kernel_rfl) | (rw [if_neg (by decide +kernel)]; exact ⟨rfl, rfl⟩))
    (fun os started H enc _ => law_lifted_laid_sized Rows.recMayRow.laid 6 Tryz.f6 Rows.recMaySpec Tryz.func6 (by kernel_rfl) rfl rfl
      (by rw [Tryz.params6]; intro t ht; simp at ht; rcases ht with rfl | rfl <;> exact ⟨by kernel_rfl, of_decide_eq_true (by kernel_rfl)⟩)
      (fun H ds hl => by
        rw [Tryz.params6] at hl
        match ds, hl with
        | [_, _], _ => exact ⟨rfl, rfl, rfl⟩)
      recMay_contract os started H enc
      (ChangeSpec.witness_shaped (enc := enc) (C := Tryz.checked) (os := os) (X := fun w _ => laidMetH Tryz.prog Rows.recMayRow.laid w) false (World.laidAll Tryz.prog os Rows.recMayRow.laid) #[.agg #[.int .u8 0, .int .u32 0, .int .u8 0, .int .u32 0, .int .u32 0, .int .u32 0, .int .u32 0, .int .u64 0, .slice none 0 0, .slice none 0 0, .int .u8 0, .int .u8 0, .int .u8 0, .int .u8 0, .int .u8 0, .int .u8 0, .int .u8 0, .int .u8 0, .int .u32 0, .string ⟨#[]⟩, .int .u32 0, .int .u8 0, .int .u8 0, .int .u8 0, .int .u8 0, .int .u8 0, .int .u8 0, .int .u8 0, .int .u8 0, .int .u8 0, .int .u8 0], .agg #[.int .u8 0, .int .u32 0, .int .u8 0, .int .u32 0, .int .u32 0, .int .u32 0, .int .u32 0, .int .u64 0, .slice none 0 0, .slice none 0 0, .int .u8 0, .int .u8 0, .int .u8 0, .int .u8 0, .int .u8 0, .int .u8 0, .int .u8 0, .int .u8 0, .int .u32 0, .string ⟨#[]⟩, .int .u32 0, .int .u8 0, .int .u8 0, .int .u8 0, .int .u8 0, .int .u8 0, .int .u8 0, .int .u8 0, .int .u8 0, .int .u8 0, .int .u8 0]] 8 (World.laidAll_os _ _ _)
        (World.shaped_of_ZipB (by kernel_rfl) (by kernel_rfl)) (by kernel_rfl) (by kernel_rfl) (by kernel_rfl)
        (by rw [MakeChecks.laidMetH_plain _ _ _ (by kernel_rfl)]; exact laidMet_laidAll _ (by kernel_rfl) (by kernel_rfl))))
theorem RecMay_holds : Rows.RecMayCardSaid :=
  Claim7.holds_tied_plain_at .later [] [.data, .pinned] true Rows.recMayCard.stood.harness false RecMay_row (fun _ h => by cases h) (by kernel_rfl) (fun _ h => by cases h) recMay_row_tie rfl ⟨rfl, rfl⟩ (by kernel_rfl) rfl
    (fun f fn hf hfn => by
      obtain rfl : f = 6 := Option.some.inj ((show Tryz.prog.funcNamed "parrel/parrellaw11.RecMay" = some 6 by kernel_rfl).symm.trans hf) |>.symm
      obtain rfl : fn = Tryz.f6 := (Option.some.inj (Tryz.func6.symm.trans hfn)).symm
      exact ⟨by kernel_rfl, fun j t ht => by
        rw [Tryz.params6] at ht
        have hm : t ∈ [50, 50] := by simpa using Array.mem_of_getElem? ht
        have hall : ([50, 50].all fun u => !Tryz.prog.wantsStandIn u) = true := by kernel_rfl
        exact (show Tryz.prog.wantsStandIn t = false by simpa using List.all_eq_true.1 hall t hm)⟩)
    (by kernel_rfl)
#print axioms RecMay_holds
end Go.Proofs.YtjfmidcaekhhgaaGreatDoor
