/- A disk that nobody made: every call. -/
import Derived.Test.YtdolddgmemlofaaDiskForced
namespace Go.Proofs.Ytdolddgmemlofaa
open Go.RowKit Go.PM
set_option maxRecDepth 100000

/-- Nil, or a zero disk. -/
def NoDisk (pv : Option Addr) (w : World) : Prop := pv = none ∨ ∃ p, pv = some ⟨p, 0, none⟩ ∧ DiskZ w p

section
variable {w : World} {pv : Option Addr}
theorem z_made (h : NoDisk pv w) : Calls Try.prog 70 #[.pointer pv] w fun e w' => e = .returned (.bool false) ∧ w = w' := by
  rcases h with rfl | ⟨p, rfl, h⟩
  · exact d_made_nil w
  · exact d_made_zero h

set_option maxHeartbeats 400000 in
theorem z_ready (h : NoDisk pv w) : Calls Try.prog 68 #[.pointer pv] w fun e w' => e = .returned (.int .i64 2) ∧ w = w' := by
  go_enter Try.func68, Try.ntmps68
  go_wp2_with (go_at_call 70; refine (z_made h).mono ?_; rintro e w' ⟨rfl, rfl⟩)
  go_ret
  exact ⟨rfl, rfl⟩

set_option maxHeartbeats 400000 in
theorem z_append (h : NoDisk pv w) (a : Option Addr) (n c : Nat) : Calls Try.prog 33 #[.pointer pv, .slice a n c] w fun e w' => e = .returned (.tuple #[.int .i64 0, .int .i64 2]) ∧ w = w' := by
  go_enter Try.func33, Try.ntmps33
  go_wp2_with (go_at_call 68; refine (z_ready h).mono ?_; rintro e w' ⟨rfl, rfl⟩)
  go_ret2
  exact ⟨rfl, rfl⟩

set_option maxHeartbeats 400000 in
theorem z_read (h : NoDisk pv w)  : Calls Try.prog 38 #[.pointer pv] w fun e w' => e = .returned (.tuple #[.slice none 0 0, .int .i64 2]) ∧ w = w' := by
  go_enter Try.func38, Try.ntmps38
  go_wp2_with (go_at_call 68; refine (z_ready h).mono ?_; rintro e w' ⟨rfl, rfl⟩)
  go_ret2
  exact ⟨rfl, rfl⟩

set_option maxHeartbeats 400000 in
theorem z_arm (h : NoDisk pv w) (m : Int) : Calls Try.prog 46 #[.pointer pv, .int .i64 m] w fun e w' => e = .returned (.tuple #[]) ∧ w = w' := by
  go_enter Try.func46, Try.ntmps46
  go_wp2_with (go_at_call 70; refine (z_made h).mono ?_; rintro e w' ⟨rfl, rfl⟩)
  go_end0
  exact ⟨rfl, rfl⟩

set_option maxHeartbeats 400000 in
theorem z_force (h : NoDisk pv w)  : Calls Try.prog 37 #[.pointer pv] w fun e w' => e = .returned (.int .i64 2) ∧ w = w' := by
  go_enter Try.func37, Try.ntmps37
  go_wp2_with (go_at_call 68; refine (z_ready h).mono ?_; rintro e w' ⟨rfl, rfl⟩)
  go_ret
  exact ⟨rfl, rfl⟩

set_option maxHeartbeats 400000 in
theorem z_cut (h : NoDisk pv w) (m : Int) : Calls Try.prog 36 #[.pointer pv, .int .i64 m] w fun e w' => e = .returned (.int .i64 2) ∧ w = w' := by
  go_enter Try.func36, Try.ntmps36
  go_wp2_with (go_at_call 68; refine (z_ready h).mono ?_; rintro e w' ⟨rfl, rfl⟩)
  go_ret
  exact ⟨rfl, rfl⟩

set_option maxHeartbeats 400000 in
theorem z_trim (h : NoDisk pv w) (m : Int) : Calls Try.prog 54 #[.pointer pv, .int .i64 m] w fun e w' => e = .returned (.int .i64 2) ∧ w = w' := by
  go_enter Try.func54, Try.ntmps54
  go_wp2_with (go_at_call 68; refine (z_ready h).mono ?_; rintro e w' ⟨rfl, rfl⟩)
  go_ret
  exact ⟨rfl, rfl⟩

set_option maxHeartbeats 400000 in
theorem z_fail (h : NoDisk pv w)  : Calls Try.prog 48 #[.pointer pv] w fun e w' => e = .returned (.int .i64 2) ∧ w = w' := by
  go_enter Try.func48, Try.ntmps48
  go_wp2_with (go_at_call 70; refine (z_made h).mono ?_; rintro e w' ⟨rfl, rfl⟩)
  go_ret
  exact ⟨rfl, rfl⟩

set_option maxHeartbeats 400000 in
theorem z_start (h : NoDisk pv w) (m : Int) (b : Bool) (a : Option Addr) (n c : Nat) : Calls Try.prog 45 #[.pointer pv, .int .i64 m, .bool b, .slice a n c] w fun e w' => e = .returned (.int .i64 2) ∧ w = w' := by
  go_enter Try.func45, Try.ntmps45
  go_wp2_with (go_at_call 70; refine (z_made h).mono ?_; rintro e w' ⟨rfl, rfl⟩)
  go_ret
  exact ⟨rfl, rfl⟩

set_option maxHeartbeats 400000 in
theorem z_forced (h : NoDisk pv w)  : Calls Try.prog 47 #[.pointer pv] w fun e w' => e = .returned (.tuple #[.int .i64 0, .int .i64 0]) ∧ w = w' := by
  go_enter Try.func47, Try.ntmps47
  go_wp2_with (go_at_call 70; refine (z_made h).mono ?_; rintro e w' ⟨rfl, rfl⟩)
  go_ret2
  exact ⟨rfl, rfl⟩

set_option maxHeartbeats 400000 in
theorem z_base (h : NoDisk pv w)  : Calls Try.prog 39 #[.pointer pv] w fun e w' => e = .returned (.int .i64 0) ∧ w = w' := by
  go_enter Try.func39, Try.ntmps39
  go_wp2_with (go_at_call 70; refine (z_made h).mono ?_; rintro e w' ⟨rfl, rfl⟩)
  go_ret
  exact ⟨rfl, rfl⟩

set_option maxHeartbeats 400000 in
theorem z_end (h : NoDisk pv w)  : Calls Try.prog 35 #[.pointer pv] w fun e w' => e = .returned (.int .i64 0) ∧ w = w' := by
  go_enter Try.func35, Try.ntmps35
  go_wp2_with (go_at_call 70; refine (z_made h).mono ?_; rintro e w' ⟨rfl, rfl⟩)
  go_ret
  exact ⟨rfl, rfl⟩

set_option maxHeartbeats 400000 in
theorem z_left (h : NoDisk pv w)  : Calls Try.prog 34 #[.pointer pv] w fun e w' => e = .returned (.int .i64 0) ∧ w = w' := by
  go_enter Try.func34, Try.ntmps34
  go_wp2_with (go_at_call 70; refine (z_made h).mono ?_; rintro e w' ⟨rfl, rfl⟩)
  go_ret
  exact ⟨rfl, rfl⟩

set_option maxHeartbeats 400000 in
theorem z_room (h : NoDisk pv w)  : Calls Try.prog 53 #[.pointer pv] w fun e w' => e = .returned (.int .i64 0) ∧ w = w' := by
  go_enter Try.func53, Try.ntmps53
  go_wp2_with (go_at_call 70; refine (z_made h).mono ?_; rintro e w' ⟨rfl, rfl⟩)
  go_ret
  exact ⟨rfl, rfl⟩

set_option maxHeartbeats 400000 in
theorem z_on (h : NoDisk pv w)  : Calls Try.prog 43 #[.pointer pv] w fun e w' => e = .returned (.bool false) ∧ w = w' := by
  go_enter Try.func43, Try.ntmps43
  go_wp2_with (go_at_call 70; refine (z_made h).mono ?_; rintro e w' ⟨rfl, rfl⟩)
  go_ret
  exact ⟨rfl, rfl⟩
end
end Go.Proofs.Ytdolddgmemlofaa
