/- The laws' own alive, as a walk. -/
import Derived.Test.YtencnfgmgcdiiaaAvW
namespace Go.Proofs.Ytencnfgmgcdiiaa
open Go.RowKit Go.PM

def three (n : Nat) : List UInt8 := [UInt8.ofNat n, UInt8.ofNat n, UInt8.ofNat n, 0, 0, 0, 0, 0]
theorem alive_reads : rdOf 1 2 2 (three 1) (three 90) 2 = (9720000000000000, 0) := by decide +kernel
theorem alive_losses : lsOf 1 2 2 (three 1) = (1, 1, 0) := by decide +kernel

section
variable {w : World}

set_option maxRecDepth 100000 in
set_option maxHeartbeats 2000000 in
theorem alive_calls : Calls Try.prog 23 #[] w fun e w' => e = .returned (.bool true) ∧ Kept No w w' := by
  have h1 := fun w => reads_calls (w := w) 1 2 2 (three 1) (three 90) rfl rfl (by decide) (by decide) (by decide)
  have h2 := fun w => losses_calls (w := w) 1 2 2 (three 1) rfl (by decide) (by decide) (by decide)
  rw [alive_reads] at h1
  rw [alive_losses] at h2
  have g1 : ∀ w, Calls Try.prog 26 #[.agg #[.int .u32 1, .int .u8 2, .int .u8 2, .int .u8 1, .int .u8 1, .int .u8 1, .int .u8 0, .int .u8 0, .int .u8 0, .int .u8 0, .int .u8 0], .agg #[.int .u8 90, .int .u8 90, .int .u8 90, .int .u8 0, .int .u8 0, .int .u8 0, .int .u8 0, .int .u8 0]] w
      fun x w' => x = .returned (.tuple #[.int .u64 9720000000000000, .int .i64 0]) ∧ Kept No w w' := h1
  have g2 : ∀ w, Calls Try.prog 21 #[.agg #[.int .u32 1, .int .u8 2, .int .u8 2, .int .u8 1, .int .u8 1, .int .u8 1, .int .u8 0, .int .u8 0, .int .u8 0, .int .u8 0, .int .u8 0]] w
      fun x w' => x = .returned (.tuple #[.int .i64 1, .int .i64 1, .int .i64 0]) ∧ Kept No w w' := h2
  have H1 := Lib.hid g1
  have H2 := Lib.hid g2
  clear h1 h2 g1 g2
  have B0 := Blk.new w 49 [.int .u32 1, .int .u8 2, .int .u8 2, .int .u8 1, .int .u8 1, .int .u8 1, .int .u8 0, .int .u8 0, .int .u8 0, .int .u8 0, .int .u8 0]
  have K0 := (Kept.refl No w).alloc (.cells #[.int .u32 1, .int .u8 2, .int .u8 2, .int .u8 1, .int .u8 1, .int .u8 1, .int .u8 0, .int .u8 0, .int .u8 0, .int .u8 0, .int .u8 0] 49)
  go_enter Try.func23, Try.ntmps23
  go_wp2_with fail
  refine (H1.out _).mono ?_
  rintro _ w1 ⟨rfl, k1⟩
  have C0 : Blk w1 _ _ _ := B0.kept k1 id
  have K1 := K0.trans k1 fun _ _ h => h
  have c0 := C0.cell 0
  have c1 := C0.cell 1
  have c2 := C0.cell 2
  have c3 := C0.cell 3
  have c4 := C0.cell 4
  have c5 := C0.cell 5
  have c6 := C0.cell 6
  have c7 := C0.cell 7
  have c8 := C0.cell 8
  have c9 := C0.cell 9
  have c10 := C0.cell 10
  simp only [List.getElem?_cons_succ, List.getElem?_cons_zero] at c0 c1 c2 c3 c4 c5 c6 c7 c8 c9 c10
  go_wp2_with fail
  refine (H2.out _).mono ?_
  rintro _ w2 ⟨rfl, k2⟩
  go_wp2
  go_ret
  exact ⟨rfl, K1.trans k2 fun _ _ h => h⟩
end
end Go.Proofs.Ytencnfgmgcdiiaa
