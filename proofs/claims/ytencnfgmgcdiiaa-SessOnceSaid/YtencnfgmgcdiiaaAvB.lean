/- Votes of a set, as walks. -/
import Derived.Test.YtencnfgmgcdiiaaAvA
namespace Go.Proofs.Ytencnfgmgcdiiaa
open Go.RowKit Go.PM

/-- Votes, or chances, of eight nodes, as numbers. -/
def vsOf (l : List UInt8) (n : Nat) : Nat := (l.getD n 0).toNat
/-- A configuration as the machine holds it. -/
def cfgc (e r v : Nat) (l : List UInt8) : List Value := .int .u32 e :: .int .u8 r :: .int .u8 v :: bcells l
theorem cfgc_votes (e r v : Nat) (l : List UInt8) {k : Nat} (hk : k < l.length) : (cfgc e r v l)[3 + k]? = some (.int .u8 (vsOf l k)) := by
  rw [show 3 + k = k + 1 + 1 + 1 by omega]
  simp only [cfgc, List.getElem?_cons_succ]
  rw [bcells_get l k hk]
  simp [vsOf, List.getD_eq_getElem?_getD, hk]

section
variable {w : World}

def OfRel (_w : World) (ws : World) (l : List UInt8) (set : Nat) (n i : Value) (wr : World) : Prop :=
  ∃ k : Nat, k ≤ 8 ∧ n = .int .i64 (avOf (vsOf l) k set) ∧ i = .int .i64 k ∧ wr = ws

theorem vsOf_lt (l : List UInt8) (k : Nat) : vsOf l k < 256 := UInt8.toNat_lt _
theorem avOf_le (l : List UInt8) (k set : Nat) : avOf (vsOf l) k set ≤ 255 * k := by
  induction k with
  | zero => exact Nat.le_refl _
  | succ k ih =>
    unfold avOf
    have := vsOf_lt l k
    split <;> omega

set_option maxRecDepth 100000 in
set_option maxHeartbeats 400000 in
theorem refOf_calls (e r v : Nat) (l : List UInt8) (hl : l.length = 8) (set : Nat) (hs : set < 18446744073709551616) :
    Calls Try.prog 25 #[.agg (cfgc e r v l).toArray, .int .u64 set] w fun x w' => x = .returned (.int .i64 (avOf (vsOf l) 8 set)) ∧ Kept No w w' := by
  go_enter Try.func25, Try.ntmps25
  go_wp2
  have B0 := Blk.new w 49 (cfgc e r v l)
  have K0 := (Kept.refl No w).alloc (.cells (cfgc e r v l).toArray 49)
  generalize hws : w.alloc (.cells (cfgc e r v l).toArray 49) = ws at *
  go_loopw [5, 6] (fun n i wr => OfRel w ws l set n i wr) (fun _ i _ => 8 - (intOf i).toNat)
  case atStart => exact ⟨0, by omega, rfl, rfl, rfl⟩
  case round =>
    obtain ⟨k, hk, rfl, rfl, rfl⟩ := hrel
    by_cases hlt : k < 8
    · have i0 : (0 : Int) ≤ k := by omega
      have i1 : (k : Int) < 8 := by omega
      have hc : wr.cell? ⟨w.heap.size, 3 + k, none⟩ = some (.int .u8 (vsOf l k)) := (B0.cell _).trans (cfgc_votes e r v l (by omega))
      have v1 := vsOf_lt l k
      have a1 := avOf_le l k set
      have step : avOf (vsOf l) (k + 1) set = avOf (vsOf l) k set + if set.testBit k then vsOf l k else 0 := rfl
      have V1 : ((vsOf l k : Nat) : Int) < 256 := by omega
      have A1 : ((avOf (vsOf l) k set : Nat) : Int) ≤ 2040 := by omega
      cases hb : set.testBit k
      · go_wp2_with (go_at_call 47; refine (has_calls set k hs (by omega)).mono ?_; rw [hb]; rintro _ _ ⟨rfl, rfl⟩)
        go_roundw
        case rel => exact ⟨k + 1, by omega, by rw [step, hb]; rfl, by go_num, rfl⟩
        case measure => simp [intOf]; omega
      · go_wp2_with (go_at_call 47; refine (has_calls set k hs (by omega)).mono ?_; rw [hb]; rintro _ _ ⟨rfl, rfl⟩)
        refine ⟨⟨k + 1, by omega, ?_, by go_num, rfl⟩, by simp [intOf]; omega⟩
        rw [step, hb, if_pos rfl]
        go_num
    · have e : k = 8 := by omega
      subst e
      go_wp2
      go_ret
      exact ⟨rfl, K0⟩

def TotRel (ws : World) (l : List UInt8) (n i : Value) (wr : World) : Prop :=
  ∃ k : Nat, k ≤ 8 ∧ n = .int .i64 (avOf (vsOf l) k 255) ∧ i = .int .i64 k ∧ wr = ws

theorem bit255 : ∀ k, k < 8 → Nat.testBit 255 k = true := by decide

set_option maxRecDepth 100000 in
set_option maxHeartbeats 400000 in
theorem refTotal_calls (e r v : Nat) (l : List UInt8) (hl : l.length = 8) :
    Calls Try.prog 39 #[.agg (cfgc e r v l).toArray] w fun x w' => x = .returned (.int .i64 (avOf (vsOf l) 8 255)) ∧ Kept No w w' := by
  go_enter Try.func39, Try.ntmps39
  go_wp2
  have B0 := Blk.new w 49 (cfgc e r v l)
  have K0 := (Kept.refl No w).alloc (.cells (cfgc e r v l).toArray 49)
  generalize hws : w.alloc (.cells (cfgc e r v l).toArray 49) = ws at *
  go_loopw [3, 4] (fun n i wr => TotRel ws l n i wr) (fun _ i _ => 8 - (intOf i).toNat)
  case atStart => exact ⟨0, by omega, rfl, rfl, rfl⟩
  case round =>
    obtain ⟨k, hk, rfl, rfl, rfl⟩ := hrel
    by_cases hlt : k < 8
    · have i0 : (0 : Int) ≤ k := by omega
      have i1 : (k : Int) < 8 := by omega
      have hc : wr.cell? ⟨w.heap.size, 3 + k, none⟩ = some (.int .u8 (vsOf l k)) := (B0.cell _).trans (cfgc_votes e r v l (by omega))
      have v1 := vsOf_lt l k
      have a1 := avOf_le l k 255
      have step : avOf (vsOf l) (k + 1) 255 = avOf (vsOf l) k 255 + if Nat.testBit 255 k then vsOf l k else 0 := rfl
      have V1 : ((vsOf l k : Nat) : Int) < 256 := by omega
      have A1 : ((avOf (vsOf l) k 255 : Nat) : Int) ≤ 2040 := by omega
      go_wp2
      go_roundw
      case rel =>
        refine ⟨k + 1, by omega, ?_, by go_num, rfl⟩
        rw [step, bit255 k hlt, if_pos rfl]
        go_num
      case measure => simp [intOf]; omega
    · have e : k = 8 := by omega
      subst e
      go_wp2
      go_ret
      exact ⟨rfl, K0⟩
end
end Go.Proofs.Ytencnfgmgcdiiaa
