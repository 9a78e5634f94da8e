/- The walks of package net's small functions. -/
import Derived.Test.YtdolddgmemlofaaRows
import Derived.Test.YtdolddgmemlofaaLaw
namespace Go.Proofs.Ytdolddgmemlofaa
open Go.RowKit Go.PM

theorem Try.inf_byte : (Try.prog.info? 5).map (fun i => (i.zero, i.size, i.bytes)) = some (some (.int .u8 0), 1, 1) := by kernel_rfl
theorem Try.sz_byte : (Try.prog.info? 5).map (·.size) = some 1 := by kernel_rfl
theorem Try.u_bytes : Try.prog.underlying 32 = some (.slice 5) := by kernel_rfl

def CopiedPost (w : World) (f t : Int) (l : List UInt8) (e : Ending) (w' : World) : Prop :=
  ∃ v, e = .returned (.agg #[.int .u8 f, .int .u8 t, v]) ∧ FreshB w w' 5 v l ∧ Kept No w w'

set_option maxRecDepth 100000 in
set_option maxHeartbeats 400000 in
theorem copied_calls (f t : Int) (a : Option Addr) (c : Nat) (l : List UInt8) (w : World) (hr : Rd w a (bcells l)) (hl : l.length ≤ 1099511627776) :
    Calls Try.prog 57 #[.agg #[.int .u8 f, .int .u8 t, .slice a l.length c]] w (CopiedPost w f t l) := by
  obtain ⟨i0, hi, hz0, hz1, hz2⟩ := info_parts Try.inf_byte
  have hbc := bcells_one l
  go_enter Try.func57, Try.ntmps57
  go_wp2_with (first
    | (at_make; go_must (refine wpList_make rfl (.tmp 6) (.tmp 6) _ rfl _ i0 _ Try.u_bytes hi hz0 _ _ hz1 hz2 rfl .i64 .i64 _ _ l.length l.length rfl rfl rfl rfl (Nat.le_refl _) (by omega) (by omega) ?_))
    | (with_reducible refine wpList_copy_last rfl (.tmp 8) (.tmp 10) _ _ rfl _ Try.u_bytes Try.sz_byte _ l.length _ _ _ rfl rfl ?c1 _ _ ?c2 (bcells l) (bcells_length l) ?c3 hbc ?_))
  case c1 => simp
  case c2 => simp [zrow_length, Value.cells]
  case c3 => exact hr.keptNo (((Kept.refl No w).alloc _).alloc _)
  exact bodyPost_ret (v := .agg #[.int .u8 f, .int .u8 t, .slice (some ⟨w.heap.size + 1 + 1, 0, none⟩) l.length l.length]) (by simp [results, Try.results57, go_sem]) rfl
    ⟨_, rfl, ⟨_, rfl, by omega, Blk.new' (by simp) _ _⟩, (((Kept.refl No w).alloc _).alloc _).alloc _⟩

/-- A network's struct. -/
def NetB (w : World) (p : Nat) (room : Int) (a : Option Addr) (n cap : Nat) (lost : Int) : Prop := Blk w p 65 [.int .i64 room, .slice a n cap, .int .u32 lost]

section
variable {w : World} {p : Nat} {room : Int} {a : Option Addr} {n cap : Nat} {lost : Int}
theorem NetB.c0 (h : NetB w p room a n cap lost) : w.cell? ⟨p, 0, none⟩ = some (.int .i64 room) := h.cell 0
theorem NetB.c1 (h : NetB w p room a n cap lost) : w.cell? ⟨p, 1, none⟩ = some (.slice a n cap) := h.cell 1
theorem NetB.c2 (h : NetB w p room a n cap lost) : w.cell? ⟨p, 2, none⟩ = some (.int .u32 lost) := h.cell 2

set_option maxHeartbeats 400000 in
theorem ok_calls (h : NetB w p room a n cap lost) (hr : 0 < room) :
    Calls Try.prog 56 #[.pointer (some ⟨p, 0, none⟩)] w fun e w' => e = .returned (.bool true) ∧ w = w' := by
  have h0 := h.c0
  have hr' : decide (0 < room) = true := by simpa using hr
  clear h hr
  go_enter Try.func56, Try.ntmps56
  go_wp2
  go_ret
  exact ⟨rfl, rfl⟩

set_option maxHeartbeats 400000 in
theorem ok_zero (h : NetB w p 0 a n cap lost) :
    Calls Try.prog 56 #[.pointer (some ⟨p, 0, none⟩)] w fun e w' => e = .returned (.bool false) ∧ w = w' := by
  have h0 := h.c0
  clear h
  go_enter Try.func56, Try.ntmps56
  go_wp2
  go_ret
  exact ⟨rfl, rfl⟩

set_option maxHeartbeats 400000 in
theorem ok_nil (w : World) :
    Calls Try.prog 56 #[.pointer none] w fun e w' => e = .returned (.bool false) ∧ w = w' := by
  go_enter Try.func56, Try.ntmps56
  go_wp2
  go_ret
  exact ⟨rfl, rfl⟩

set_option maxHeartbeats 400000 in
theorem isFull_calls (h : NetB w p room a n cap lost) :
    Calls Try.prog 59 #[.pointer (some ⟨p, 0, none⟩)] w fun e w' => e = .returned (.bool (decide ((n : Int) = room))) ∧ ∃ k, w' = w.drewN k := by
  have h0 := h.c0
  have h1 := h.c1
  clear h
  go_enter Try.func59, Try.ntmps59
  go_wp2
  go_quiet (fail)
  go_wp2
  go_ret
  exact ⟨rfl, _, rfl⟩

set_option maxHeartbeats 400000 in
theorem next_calls (m : Int) (w : World) (h0 : 0 ≤ m) (h1 : m < 2147483647) :
    Calls Try.prog 82 #[.int .u32 m] w fun e w' => e = .returned (.tuple #[.int .u32 (m + 1), .int .i64 0]) ∧ w = w' := by
  go_enter Try.func82, Try.ntmps82
  go_wp2
  go_ret2
  exact ⟨rfl, rfl⟩

set_option maxHeartbeats 400000 in
theorem next_max (m : Int) (w : World) (h1 : 2147483647 ≤ m) :
    Calls Try.prog 82 #[.int .u32 m] w fun e w' => e = .returned (.tuple #[.int .u32 m, .int .i64 17]) ∧ w = w' := by
  go_enter Try.func82, Try.ntmps82
  go_wp2
  go_ret2
  exact ⟨rfl, rfl⟩

/-- What is lost, and one more. -/
def more (lost : Int) : Int := if lost < 2147483647 then lost + 1 else lost

theorem next_any (m : Int) (w : World) (h0 : 0 ≤ m) :
    Calls Try.prog 82 #[.int .u32 m] w fun e w' => (∃ c, e = .returned (.tuple #[.int .u32 (more m), .int .i64 c])) ∧ w = w' := by
  by_cases h : m < 2147483647
  · refine (next_calls m w h0 h).mono ?_
    rintro e w' ⟨rfl, rfl⟩; exact ⟨⟨0, by simp [more, h]⟩, rfl⟩
  · refine (next_max m w (by omega)).mono ?_
    rintro e w' ⟨rfl, rfl⟩; exact ⟨⟨17, by simp [more, h]⟩, rfl⟩

set_option maxHeartbeats 400000 in
theorem lose_calls (h : NetB w p room a n cap lost) (h0 : 0 ≤ lost) :
    Calls Try.prog 60 #[.pointer (some ⟨p, 0, none⟩)] w fun e w' => e = .returned (.tuple #[]) ∧ NetB w' p room a n cap (more lost) ∧ Kept (· = p) w w' := by
  have h2 := h.c2
  have f2 := h.frozen 2
  go_enter Try.func60, Try.ntmps60
  go_wp2_with (go_at_call 82; refine (next_any _ _ h0).mono ?_; rintro e w' ⟨⟨c, rfl⟩, rfl⟩)
  go_end0
  exact ⟨rfl, Blk.set h 2 _, Kept.setCell (S := (· = p)) (Kept.refl _ w) (a := ⟨p, 2, none⟩) (fun _ => rfl) _⟩

set_option maxHeartbeats 400000 in
theorem new_calls (room : Int) (w : World) (h0 : 1 ≤ room) (h1 : room ≤ 256) :
    Calls Try.prog 15 #[.int .i64 room] w fun e w' => e = .returned (.tuple #[.pointer (some ⟨w.heap.size, 0, none⟩), .int .i64 0]) ∧ NetB w' w.heap.size room none 0 0 0 ∧ Kept No w w' := by
  go_enter Try.func15, Try.ntmps15
  go_wp2
  go_ret2
  exact ⟨rfl, Blk.new _ _ _, (Kept.refl _ _).alloc _⟩

set_option maxHeartbeats 400000 in
theorem new_no (room : Int) (w : World) (h : ¬ (1 ≤ room ∧ room ≤ 256)) :
    Calls Try.prog 15 #[.int .i64 room] w fun e w' => e = .returned (.tuple #[.pointer none, .int .i64 1]) ∧ w = w' := by
  have h' : room < 1 ∨ (1 ≤ room ∧ 256 < room) := by omega
  clear h
  rcases h' with h0 | ⟨h0, h1⟩
  all_goals
    go_enter Try.func15, Try.ntmps15
    go_wp2
    go_ret2
    exact ⟨rfl, rfl⟩

set_option maxHeartbeats 400000 in
theorem len_calls (h : NetB w p room a n cap lost) (hr : 0 < room) :
    Calls Try.prog 20 #[.pointer (some ⟨p, 0, none⟩)] w fun e w' => e = .returned (.int .i64 n) ∧ w = w' := by
  have h1 := h.c1
  go_enter Try.func20, Try.ntmps20
  go_wp2_with (go_at_call 56; refine (ok_calls h hr).mono ?_; rintro e w' ⟨rfl, rfl⟩)
  go_ret
  exact ⟨rfl, rfl⟩

set_option maxHeartbeats 400000 in
theorem lost_calls (h : NetB w p room a n cap lost) (hr : 0 < room) (h0 : 0 ≤ lost) (h1 : lost ≤ 4294967295) :
    Calls Try.prog 24 #[.pointer (some ⟨p, 0, none⟩)] w fun e w' => e = .returned (.int .i64 lost) ∧ w = w' := by
  have h2 := h.c2
  go_enter Try.func24, Try.ntmps24
  go_wp2_with (go_at_call 56; refine (ok_calls h hr).mono ?_; rintro e w' ⟨rfl, rfl⟩)
  go_ret
  exact ⟨rfl, rfl⟩
end
end Go.Proofs.Ytdolddgmemlofaa
