/- The walks of package disk's small functions. -/
import Derived.Test.YtdolddgmemlofaaRows
import Derived.Test.YtdolddgmemlofaaLawC
import Derived.Test.YtdolddgmemlofaaDiskP
namespace Go.Proofs.Ytdolddgmemlofaa
open Go.RowKit Go.PM

theorem Try.dinf_byte : (Try.prog.info? 5).map (fun i => (i.zero, i.size, i.bytes)) = some (some (.int .u8 0), 1, 1) := by kernel_rfl
theorem Try.du_bytes : Try.prog.underlying 32 = some (.slice 5) := by kernel_rfl
theorem Try.du_byte : Try.prog.underlying 5 = some (.int .u8) := by kernel_rfl
theorem Try.du_int : Try.prog.underlying 3 = some (.int .i64) := by kernel_rfl

/-- A disk's struct. -/
def DiskB (w : World) (p : Nat) (s : PD) (a : Option Addr) (cap : Nat) : Prop :=
  Blk w p 104 [.int .i64 s.fr, .slice a s.b.length cap, .int .i64 s.room, .int .i64 s.base, .int .i64 s.fr, .int .i64 s.se, .bool s.on, .int .i64 s.fuse]
/-- One that nobody made. -/
def DiskZ (w : World) (p : Nat) : Prop :=
  Blk w p 104 [.int .i64 0, .slice none 0 0, .int .i64 0, .int .i64 0, .int .i64 0, .int .i64 0, .bool false, .int .i64 0]

section
variable {w : World} {p : Nat} {s : PD} {a : Option Addr} {cap : Nat}
theorem DiskB.c0 (h : DiskB w p s a cap) : w.cell? ⟨p, 0, none⟩ = some (.int .i64 s.fr) := h.cell 0
theorem DiskB.c1 (h : DiskB w p s a cap) : w.cell? ⟨p, 1, none⟩ = some (.slice a s.b.length cap) := h.cell 1
theorem DiskB.c2 (h : DiskB w p s a cap) : w.cell? ⟨p, 2, none⟩ = some (.int .i64 s.room) := h.cell 2
theorem DiskB.c3 (h : DiskB w p s a cap) : w.cell? ⟨p, 3, none⟩ = some (.int .i64 s.base) := h.cell 3
theorem DiskB.c4 (h : DiskB w p s a cap) : w.cell? ⟨p, 4, none⟩ = some (.int .i64 s.fr) := h.cell 4
theorem DiskB.c5 (h : DiskB w p s a cap) : w.cell? ⟨p, 5, none⟩ = some (.int .i64 s.se) := h.cell 5
theorem DiskB.c6 (h : DiskB w p s a cap) : w.cell? ⟨p, 6, none⟩ = some (.bool s.on) := h.cell 6
theorem DiskB.c7 (h : DiskB w p s a cap) : w.cell? ⟨p, 7, none⟩ = some (.int .i64 s.fuse) := h.cell 7

set_option maxHeartbeats 400000 in
theorem d_made (h : DiskB w p s a cap) (hr : 1 ≤ s.room) :
    Calls Try.prog 70 #[.pointer (some ⟨p, 0, none⟩)] w fun e w' => e = .returned (.bool true) ∧ w = w' := by
  have c2 := h.c2
  have hr' : decide (0 < s.room) = true := by simp; omega
  clear h hr
  go_enter Try.func70, Try.ntmps70
  go_wp2
  go_ret
  exact ⟨rfl, rfl⟩

set_option maxHeartbeats 400000 in
theorem d_made_nil (w : World) :
    Calls Try.prog 70 #[.pointer none] w fun e w' => e = .returned (.bool false) ∧ w = w' := by
  go_enter Try.func70, Try.ntmps70
  go_wp2
  go_ret
  exact ⟨rfl, rfl⟩

set_option maxHeartbeats 400000 in
theorem d_made_zero (h : DiskZ w p) :
    Calls Try.prog 70 #[.pointer (some ⟨p, 0, none⟩)] w fun e w' => e = .returned (.bool false) ∧ w = w' := by
  have c2 : w.cell? ⟨p, 2, none⟩ = some (.int .i64 0) := h.cell 2
  clear h
  go_enter Try.func70, Try.ntmps70
  go_wp2
  go_ret
  exact ⟨rfl, rfl⟩

/-- ready's answer. -/
def readyCode (on : Bool) : Int := if on = true then 0 else 10

set_option maxHeartbeats 400000 in
theorem d_ready (h : DiskB w p s a cap) (hr : 1 ≤ s.room) :
    Calls Try.prog 68 #[.pointer (some ⟨p, 0, none⟩)] w fun e w' => e = .returned (.int .i64 (readyCode s.on)) ∧ w = w' := by
  have c6 := h.c6
  cases hon : s.on
  all_goals
    rw [hon] at c6
    clear hon
    go_enter Try.func68, Try.ntmps68
    go_wp2_with (go_at_call 70; refine (d_made h hr).mono ?_; rintro e w' ⟨rfl, rfl⟩)
    go_ret
    exact ⟨rfl, rfl⟩

set_option maxHeartbeats 400000 in
theorem d_left (h : DiskB w p s a cap) (hr : 1 ≤ s.room) (hr2 : s.room ≤ 65536) (hl : (s.b.length : Int) ≤ s.room) :
    Calls Try.prog 34 #[.pointer (some ⟨p, 0, none⟩)] w fun e w' => e = .returned (.int .i64 s.left) ∧ ∃ k, w' = w.drewN k := by
  have c1 := h.c1
  have c2 := h.c2
  have hw : IntKind.i64.wrap (s.room - (s.b.length : Int)) = s.room - (s.b.length : Int) := by rw [IntKind.wrap_i64]; omega
  go_enter Try.func34, Try.ntmps34
  go_wp2_with (go_at_call 70; refine (d_made h hr).mono ?_; rintro e w' ⟨rfl, rfl⟩)
  go_quiet (fail)
  go_wp2
  go_ret
  exact ⟨by simp [PD.left], _, rfl⟩

set_option maxHeartbeats 400000 in
theorem row_end (fr : Int) (a : Option Addr) (n c : Nat) (w : World) (h0 : 0 ≤ fr) (h1 : fr ≤ 9000000000000000000) (hn : n ≤ 1099511627776) :
    Calls Try.prog 69 #[.agg #[.int .i64 fr, .slice a n c]] w fun e w' => e = .returned (.int .i64 (fr + n)) ∧ Kept No w w' := by
  go_enter Try.func69, Try.ntmps69
  go_wp2
  go_ret
  exact ⟨rfl, (Kept.refl No w).alloc _⟩
end
end Go.Proofs.Ytdolddgmemlofaa
