/- The program's Of and Total, as walks. -/
import Derived.Test.YtencnfgmgcdiiaaAvE
import Derived.Test.YtencnfgmgcdiiaaArr
namespace Go.Proofs.Ytencnfgmgcdiiaa
open Go.RowKit Go.PM

theorem Try.u_arr8 : Try.prog.underlying 47 = some (.array 8 5) := by kernel_rfl

/-- The bit of a set, as the program asks for it. -/
theorem bit_and (x k : Nat) (hx : x < 18446744073709551616) : bits BinOp.and IntKind.u64 ((x : Int) / 2 ^ k) 1 = if x.testBit k then 1 else 0 := by
  have e : (x : Int) / 2 ^ k = ((x / 2 ^ k : Nat) : Int) := by simp
  have h1 : x / 2 ^ k ≤ x := Nat.div_le_self _ _
  rw [e]
  have h := bits_and_u64_nat (x / 2 ^ k) 1 (by omega) (by omega)
  rw [Nat.and_one_is_mod] at h
  refine h.trans ?_
  rw [Nat.testBit_eq_decide_div_mod_eq]
  generalize x / 2 ^ k = q
  by_cases hq : q % 2 = 1
  · simp [hq]
  · simp [hq]; omega

section
variable {w : World}

set_option maxRecDepth 100000 in
set_option maxHeartbeats 400000 in
theorem of_calls (e r v : Nat) (l : List UInt8) (hl : l.length = 8) (set : Nat) (hs : set < 18446744073709551616) :
    Calls Try.prog 67 #[.agg (cfgc e r v l).toArray, .int .u64 set] w fun x w' => x = .returned (.int .i64 (avOf (vsOf l) 8 set)) ∧ Kept No w w' := by
  go_enter Try.func67, Try.ntmps67
  have B0 := Blk.new w 49 (cfgc e r v l)
  have K0 := (Kept.refl No w).alloc (.cells (cfgc e r v l).toArray 49)
  obtain ⟨c0, c1, c2, c3, c4, c5, c6, c7, c8, c9, c10⟩ := cfg_cells B0 hl
  go_wp2
  rw [up_eq l hl]
  clear c0 c1 c2 c3 c4 c5 c6 c7 c8 c9 c10
  generalize hws : w.alloc (.cells (cfgc e r v l).toArray 49) = ws at *
  go_loopw [5, 10] (fun n i wr => OfRel w ws l set n i wr) (fun _ i _ => 8 - (intOf i).toNat)
  case atStart => exact ⟨0, by omega, rfl, rfl, rfl⟩
  case round =>
    obtain ⟨k, hk, rfl, rfl, rfl⟩ := hrel
    by_cases hlt : k < 8
    · have i0 : (0 : Int) ≤ k := by omega
      have i1 : (k : Int) < 8 := by omega
      have hx : (bcells l).toArray[k]? = some (.int .u8 (vsOf l k)) := by rw [List.getElem?_toArray]; exact upcell l (by omega)
      have hix := run_index_array (P := Try.prog) (w := wr) 47 5 8 _ .i64 k _ Try.u_arr8 hlt hx (fun w => by rfl) (fun w => by rfl)
      have hbit := bit_and set k hs
      have step : avOf (vsOf l) (k + 1) set = avOf (vsOf l) k set + if set.testBit k then vsOf l k else 0 := rfl
      have v1 := vsOf_lt l k
      have a1 := avOf_le l k set
      have V1 : ((vsOf l k : Nat) : Int) < 256 := by omega
      have A1 : ((avOf (vsOf l) k set : Nat) : Int) ≤ 2040 := by omega
      cases hb : set.testBit k
      · rw [hb, if_neg (by decide)] at hbit step
        go_wp2
        refine ⟨⟨k + 1, by omega, ?_, by go_num, rfl⟩, by simp [intOf]; omega⟩
        rw [step]; go_num
      · rw [hb, if_pos rfl] at hbit step
        go_wp2
        refine ⟨⟨k + 1, by omega, ?_, by go_num, rfl⟩, by simp [intOf]; omega⟩
        rw [step]; go_num
    · have e : k = 8 := by omega
      subst e
      go_wp2
      go_ret
      exact ⟨rfl, K0⟩

set_option maxRecDepth 100000 in
set_option maxHeartbeats 400000 in
theorem total_calls (e r v : Nat) (l : List UInt8) (hl : l.length = 8) :
    Calls Try.prog 59 #[.agg (cfgc e r v l).toArray] w fun x w' => x = .returned (.int .i64 (avOf (vsOf l) 8 255)) ∧ Kept No w w' := by
  go_enter Try.func59, Try.ntmps59
  have B0 := Blk.new w 49 (cfgc e r v l)
  have K0 := (Kept.refl No w).alloc (.cells (cfgc e r v l).toArray 49)
  obtain ⟨c0, c1, c2, c3, c4, c5, c6, c7, c8, c9, c10⟩ := cfg_cells B0 hl
  go_wp2_with (go_at_call 67; rw [cfg_eq e r v l hl]; refine (of_calls e r v l hl 255 (by omega)).mono ?_; rintro _ w2 ⟨rfl, k2⟩)
  go_ret
  exact ⟨rfl, K0.trans k2 fun _ _ h => h⟩
end
end Go.Proofs.Ytencnfgmgcdiiaa
