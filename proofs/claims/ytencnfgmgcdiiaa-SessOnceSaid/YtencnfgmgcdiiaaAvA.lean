/- Sets and votes: power, Has, as walks. -/
import Derived.Test.YtencnfgmgcdiiaaRows
import Derived.Test.YtencnfgmgcdiiaaLawC
import Derived.Test.YtencnfgmgcdiiaaAvP
namespace Go.Proofs.Ytencnfgmgcdiiaa
open Go.RowKit Go.PM

/-- A power of two, that no simp takes apart. -/
def pw (k : Nat) : Int := ((2 ^ k : Nat) : Int)
theorem pw_lt {k : Nat} (h : k < 63) : 0 < pw k ∧ pw k < 9223372036854775808 := by
  have h1 : 2 ^ k < 2 ^ 63 := Nat.pow_lt_pow_right (by omega) (by omega)
  have h2 : 0 < 2 ^ k := Nat.two_pow_pos k
  have : (2 : Nat) ^ 63 = 9223372036854775808 := by decide
  unfold pw
  omega
theorem pw_pos (k : Nat) : 0 < pw k := by
  have h2 : 0 < 2 ^ k := Nat.two_pow_pos k
  unfold pw
  omega
theorem pw_succ {k : Nat} (h : k < 63) : IntKind.u64.wrap (pw k * 2) = pw (k + 1) := by
  obtain ⟨h1, h2⟩ := pw_lt h
  rw [IntKind.wrap_u64, Int.emod_eq_of_lt (by omega) (by omega)]
  unfold pw
  rw [Nat.pow_succ]
  omega
/-- A bit by division, as the reference asks for it. -/
theorem pw_bit (x k : Nat) (hx : x < 18446744073709551616) : ((IntKind.u64.wrap ((x : Int) / pw k)).tmod 2 == 1) = x.testBit k := by
  have e : (x : Int) / pw k = ((x / 2 ^ k : Nat) : Int) := rfl
  have h1 : x / 2 ^ k ≤ x := Nat.div_le_self _ _
  rw [e, IntKind.wrap_u64, Nat.testBit_eq_decide_div_mod_eq]
  generalize x / 2 ^ k = q at *
  rw [Int.emod_eq_of_lt (by omega) (by omega), Int.tmod_eq_emod_of_nonneg (by omega), Bool.eq_iff_iff]
  simp
  omega

section
variable {w : World}

def PowRel (w : World) (n : Nat) (p i : Value) (wr : World) : Prop := ∃ k : Nat, k ≤ n ∧ p = .int .u64 (pw k) ∧ i = .int .i64 k ∧ wr = w

set_option maxRecDepth 100000 in
set_option maxHeartbeats 400000 in
theorem power_calls (n : Nat) (hn : n < 64) :
    Calls Try.prog 64 #[.int .i64 n] w fun e w' => e = .returned (.int .u64 (pw n)) ∧ w = w' := by
  go_enter Try.func64, Try.ntmps64
  go_wp2
  go_loopw [3, 4] (fun p i wr => PowRel w n p i wr) (fun _ i _ => n - (intOf i).toNat)
  case atStart => exact ⟨0, Nat.zero_le _, rfl, rfl, rfl⟩
  case round =>
    obtain ⟨k, hk, rfl, rfl, rfl⟩ := hrel
    by_cases hlt : k < n
    · have i1 : (k : Int) < n := by omega
      have e := pw_succ (k := k) (by omega)
      go_wp2
      go_roundw
      case rel => exact ⟨k + 1, by omega, rfl, by go_num, rfl⟩
      case measure => simp [intOf]; omega
    · have e : k = n := by omega
      subst e
      go_wp2
      go_ret
      exact ⟨rfl, rfl⟩

set_option maxRecDepth 100000 in
set_option maxHeartbeats 400000 in
theorem has_calls (x k : Nat) (hx : x < 18446744073709551616) (hk : k < 64) :
    Calls Try.prog 47 #[.int .u64 x, .int .i64 k] w fun e w' => e = .returned (.bool (x.testBit k)) ∧ w = w' := by
  have k0 : (0 : Int) ≤ k := by omega
  have k1 : (k : Int) < 64 := by omega
  have hp := pw_pos k
  have hb := pw_bit x k hx
  go_enter Try.func47, Try.ntmps47
  go_wp2_with (go_at_call 64; refine (power_calls k hk).mono ?_; rintro _ _ ⟨rfl, rfl⟩)
  go_ret
  exact ⟨by rw [← hb]; rfl, rfl⟩
end
end Go.Proofs.Ytencnfgmgcdiiaa
