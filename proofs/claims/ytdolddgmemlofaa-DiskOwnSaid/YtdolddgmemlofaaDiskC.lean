/- What a disk tells of itself; New, Cut, Arm, Fail, Append, Trim. -/
import Derived.Test.YtdolddgmemlofaaDiskB
namespace Go.Proofs.Ytdolddgmemlofaa
open Go.RowKit Go.PM

/-- A disk that was made: its struct at p, its bytes, the blocks S that are its own. -/
structure DX (w : World) (p : Nat) (s : PD) (a : Option Addr) (cap : Nat) (S : Nat → Prop) : Prop where
  box : DiskB w p s a cap
  own : Owns w 5 1 a s.b.length cap (bcells s.b)
  ok : s.Ok
  sp : S p
  sa : ∀ k, At a k → S k ∧ k ≠ p
  lt : ∀ k, S k → k < w.heap.size

/-- The disk at p is s; S are its blocks. -/
def DS (w : World) (p : Nat) (s : PD) (S : Nat → Prop) : Prop := ∃ a cap, DX w p s a cap S

section
variable {w w' : World} {p : Nat} {s : PD} {a : Option Addr} {cap : Nat} {S T : Nat → Prop}
theorem DX.kept (h : DX w p s a cap S) (k : Kept T w w') (hd : ∀ b, S b → ¬ T b) : DX w' p s a cap S :=
  ⟨Blk.kept h.box k (hd p h.sp), h.own.kept k (fun b hb => hd b (h.sa b hb).1), h.ok, h.sp, h.sa, fun b hb => k.lt (h.lt b hb)⟩
theorem DX.keptNo (h : DX w p s a cap S) (k : Kept No w w') : DX w' p s a cap S := h.kept k fun _ _ h => h
theorem DX.len (h : DX w p s a cap S) : s.b.length ≤ 65536 := by have := h.ok.fits; have := h.ok.room2; omega
theorem DX.nil (h : DX w p s a cap S) : a = none → cap = 0 := fun ha => by
  rcases h.own.row with ⟨_, _, hc⟩ | ⟨g, _, h', _⟩
  · exact hc
  · rw [ha] at h'; cases h'
/-- Its struct is written anew. -/
theorem DX.put (h : DX w p s a cap S) {s' : PD} (hb : DiskB w' p s' a cap) (hk : Kept (· = p) w w') (ho : s'.Ok) (he : s'.b = s.b) : DX w' p s' a cap S :=
  ⟨hb, by rw [he]; exact h.own.kept hk (fun b hb' e => (h.sa b hb').2 e), ho, h.sp, h.sa, fun b hb => hk.lt (h.lt b hb)⟩
theorem DS.kept (h : DS w p s S) (k : Kept T w w') (hd : ∀ b, S b → ¬ T b) : DS w' p s S := let ⟨a, cap, h⟩ := h; ⟨a, cap, h.kept k hd⟩
theorem DS.keptNo (h : DS w p s S) (k : Kept No w w') : DS w' p s S := h.kept k fun _ _ h => h
theorem DS.lt (h : DS w p s S) : ∀ k, S k → k < w.heap.size := let ⟨_, _, h⟩ := h; h.lt
theorem DS.sp (h : DS w p s S) : S p := let ⟨_, _, h⟩ := h; h.sp
theorem DS.ok (h : DS w p s S) : s.Ok := let ⟨_, _, h⟩ := h; h.ok
end

/-- A call on a disk: its answer, the disk behind it. -/
structure DGrows (S S' : Nat → Prop) (w w' : World) : Prop where
  kept : Kept S w w'
  grow : ∀ k, S' k → S k ∨ w.heap.size ≤ k
theorem DGrows.same {S : Nat → Prop} {w w' : World} (h : Kept S w w') : DGrows S S w w' := ⟨h, fun _ h => .inl h⟩

def DCode (w : World) (p : Nat) (S : Nat → Prop) (r : Int × PD) (e : Ending) (w' : World) : Prop :=
  ∃ S', e = .returned (.int .i64 r.1) ∧ DS w' p r.2 S' ∧ DGrows S S' w w'
def DTwo (w : World) (p : Nat) (S : Nat → Prop) (r : Int × Int × PD) (e : Ending) (w' : World) : Prop :=
  ∃ S', e = .returned (.tuple #[.int .i64 r.1, .int .i64 r.2.1]) ∧ DS w' p r.2.2 S' ∧ DGrows S S' w w'
def DUnit (w : World) (p : Nat) (S : Nat → Prop) (s : PD) (e : Ending) (w' : World) : Prop :=
  ∃ S', e = .returned (.tuple #[]) ∧ DS w' p s S' ∧ DGrows S S' w w'

section
variable {w : World} {p : Nat} {s : PD} {a : Option Addr} {cap : Nat} {S : Nat → Prop}

theorem DX.sameCode (h : DX w p s a cap S) {w' : World} (hk : Kept No w w') (code : Int) : DCode w p S (code, s) (.returned (.int .i64 code)) w' :=
  ⟨S, rfl, ⟨a, cap, h.keptNo hk⟩, DGrows.same hk.no⟩
theorem DX.putCode (h : DX w p s a cap S) {w' : World} {s' : PD} (hb : DiskB w' p s' a cap) (hk : Kept (· = p) w w') (ho : s'.Ok) (he : s'.b = s.b) (code : Int) : DCode w p S (code, s') (.returned (.int .i64 code)) w' :=
  ⟨S, rfl, ⟨a, cap, h.put hb hk ho he⟩, DGrows.same (hk.mono fun _b _ e => e ▸ h.sp)⟩

set_option maxHeartbeats 400000 in
theorem d_base (h : DX w p s a cap S) :
    Calls Try.prog 39 #[.pointer (some ⟨p, 0, none⟩)] w fun e w' => e = .returned (.int .i64 s.base) ∧ w = w' := by
  have c3 := h.box.c3
  go_enter Try.func39, Try.ntmps39
  go_wp2_with (go_at_call 70; refine (d_made h.box h.ok.room1).mono ?_; rintro e w' ⟨rfl, rfl⟩)
  go_ret
  exact ⟨rfl, rfl⟩

set_option maxHeartbeats 400000 in
theorem d_room (h : DX w p s a cap S) :
    Calls Try.prog 53 #[.pointer (some ⟨p, 0, none⟩)] w fun e w' => e = .returned (.int .i64 s.room) ∧ w = w' := by
  have c3 := h.box.c2
  go_enter Try.func53, Try.ntmps53
  go_wp2_with (go_at_call 70; refine (d_made h.box h.ok.room1).mono ?_; rintro e w' ⟨rfl, rfl⟩)
  go_ret
  exact ⟨rfl, rfl⟩

set_option maxHeartbeats 400000 in
theorem d_on (h : DX w p s a cap S) :
    Calls Try.prog 43 #[.pointer (some ⟨p, 0, none⟩)] w fun e w' => e = .returned (.bool s.on) ∧ w = w' := by
  have c3 := h.box.c6
  go_enter Try.func43, Try.ntmps43
  go_wp2_with (go_at_call 70; refine (d_made h.box h.ok.room1).mono ?_; rintro e w' ⟨rfl, rfl⟩)
  go_ret
  exact ⟨rfl, rfl⟩

set_option maxHeartbeats 400000 in
theorem d_forced (h : DX w p s a cap S) :
    Calls Try.prog 47 #[.pointer (some ⟨p, 0, none⟩)] w fun e w' => e = .returned (.tuple #[.int .i64 s.fr, .int .i64 s.se]) ∧ ∃ k, w' = w.drewN k := by
  have c4 := h.box.c4
  have c5 := h.box.c5
  go_enter Try.func47, Try.ntmps47
  go_wp2_with (go_at_call 70; refine (d_made h.box h.ok.room1).mono ?_; rintro e w' ⟨rfl, rfl⟩)
  go_quiet (fail)
  go_wp2
  go_ret2
  exact ⟨rfl, _, rfl⟩

set_option maxHeartbeats 400000 in
theorem d_end (h : DX w p s a cap S) (hlo : s.fr ≤ 4611686018427387904) :
    Calls Try.prog 35 #[.pointer (some ⟨p, 0, none⟩)] w fun e w' => e = .returned (.int .i64 s.fin) ∧ Kept No w w' := by
  have c0 := h.box.c0
  have c1 := h.box.c1
  have hl := h.len
  have hf0 := h.ok.fr0
  go_enter Try.func35, Try.ntmps35
  go_wp2_with (first
    | (go_at_call 70; refine (d_made h.box h.ok.room1).mono ?_; rintro e w' ⟨rfl, rfl⟩)
    | (go_at_call 69; refine (row_end s.fr a s.b.length cap _ hf0 (by omega) (by omega)).mono ?_; rintro e w' ⟨rfl, hk⟩))
  go_ret
  exact ⟨rfl, hk⟩

set_option maxHeartbeats 400000 in
theorem d_new (room : Int) (w : World) (h0 : 1 ≤ room) (h1 : room ≤ 65536) :
    Calls Try.prog 32 #[.int .i64 room] w fun e w' => e = .returned (.tuple #[.pointer (some ⟨w.heap.size, 0, none⟩), .int .i64 0]) ∧ DS w' w.heap.size (PD.new room) (· = w.heap.size) ∧ Kept No w w' := by
  go_enter Try.func32, Try.ntmps32
  go_wp2
  go_ret2
  have hb : DiskB (w.alloc (.cells #[.int .i64 0, .slice none 0 0, .int .i64 room, .int .i64 0, .int .i64 0, .int .i64 0, .bool true, .int .i64 (-1)] 104)) w.heap.size (PD.new room) none 0 := Blk.new _ _ _
  exact ⟨rfl, ⟨none, 0, hb, Owns.nil _ _ _, PD.Ok.new h0 h1, rfl, (fun k ⟨_, _, h, _⟩ => nomatch h), (fun k hk => by rw [hk]; exact hb.lt)⟩, (Kept.refl _ _).alloc _⟩

set_option maxHeartbeats 400000 in
theorem d_new_no (room : Int) (w : World) (h : ¬ (1 ≤ room ∧ room ≤ 65536)) :
    Calls Try.prog 32 #[.int .i64 room] w fun e w' => e = .returned (.tuple #[.pointer none, .int .i64 1]) ∧ w = w' := by
  have h' : room < 1 ∨ (1 ≤ room ∧ 65536 < room) := by omega
  clear h
  rcases h' with h0 | ⟨h0, h1⟩
  all_goals
    go_enter Try.func32, Try.ntmps32
    go_wp2
    go_ret2
    exact ⟨rfl, rfl⟩

set_option maxHeartbeats 400000 in
theorem d_arm (h : DX w p s a cap S) (n : Int) (h1 : n ≤ 9223372036854775807) :
    Calls Try.prog 46 #[.pointer (some ⟨p, 0, none⟩), .int .i64 n] w (DUnit w p S (s.arm n)) := by
  have f7 := h.box.frozen 7
  have c7 := h.box.c7
  have hX := h
  have key : ∀ v : Int, max n (-1) = v → DUnit w p S (s.arm n) (.returned (.tuple #[])) (w.setCell ⟨p, 7, none⟩ (.int .i64 v)) := by
    rintro v rfl
    have hk : Kept (· = p) w _ := (Kept.refl (· = p) w).setCell (a := ⟨p, 7, none⟩) (fun _ => rfl) (.int .i64 (max n (-1)))
    exact ⟨S, rfl, ⟨a, cap, hX.put (s' := s.arm n) (Blk.set hX.box 7 _) hk (hX.ok.arm h1) rfl⟩, DGrows.same (hk.mono fun b _ e => e ▸ hX.sp)⟩
  by_cases hn : -1 ≤ n
  all_goals
    have k := key _ rfl
    first | rw [Int.max_eq_left (by omega)] at k | rw [Int.max_eq_right (by omega)] at k
    have K := Lib.hid k
    clear key k
    go_enter Try.func46, Try.ntmps46
    go_wp2_with (go_at_call 70; refine (d_made h.box h.ok.room1).mono ?_; rintro e w' ⟨rfl, rfl⟩)
    go_end0
    exact K.out

set_option maxHeartbeats 400000 in
theorem d_fail (h : DX w p s a cap S) :
    Calls Try.prog 48 #[.pointer (some ⟨p, 0, none⟩)] w (DCode w p S s.fail) := by
  have f6 := h.box.frozen 6
  have c6 := h.box.c6
  have hk : Kept (· = p) w _ := (Kept.refl (· = p) w).setCell (a := ⟨p, 6, none⟩) (fun _ => rfl) (.bool false)
  cases hon : s.on
  all_goals
    rw [hon] at c6
    have HON := Lib.hid hon
    clear hon
    go_enter Try.func48, Try.ntmps48
    go_wp2_with (go_at_call 70; refine (d_made h.box h.ok.room1).mono ?_; rintro e w' ⟨rfl, rfl⟩)
    go_ret
  · have e : s.fail = (11, s) := PD.fail_off HON.out
    rw [e]; exact h.sameCode (Kept.refl _ _) 11
  · have e : s.fail = (0, { s with on := false }) := PD.fail_on HON.out
    rw [e]; exact h.putCode (s' := { s with on := false }) (Blk.set h.box 6 _) hk (h.ok.off _) rfl 0

set_option maxHeartbeats 400000 in
theorem d_cut (h : DX w p s a cap S) (hlo : s.fr ≤ 4611686018427387904) (n : Int) :
    Calls Try.prog 36 #[.pointer (some ⟨p, 0, none⟩), .int .i64 n] w (DCode w p S (s.cut n)) := by
  have c0 := h.box.c0
  have c1 := h.box.c1
  have c3 := h.box.c3
  have f3 := h.box.frozen 3
  have hl := h.len
  have hf0 := h.ok.fr0
  have hbase := h.ok.base0
  have hbase1 := h.ok.base1
  have hfin : s.fin = s.fr + (s.b.length : Int) := rfl
  rw [hfin] at hbase1
  clear hfin
  cases hon : s.on
  · have HON := Lib.hid hon
    clear hon
    go_enter Try.func36, Try.ntmps36
    go_wp2_with (go_at_call 68; refine (d_ready h.box h.ok.room1).mono ?_; rw [HON.out]; rintro e w' ⟨rfl, rfl⟩)
    go_ret
    have e : s.cut n = (10, s) := PD.cut_off HON.out
    rw [e]; exact h.sameCode (Kept.refl _ _) 10
  · have HON := Lib.hid hon
    clear hon
    by_cases hi : s.base ≤ n
    · by_cases hi2 : n ≤ s.fr + (s.b.length : Int)
      · go_enter Try.func36, Try.ntmps36
        go_wp2_with (first
          | (go_at_call 68; refine (d_ready h.box h.ok.room1).mono ?_; rw [HON.out]; rintro e w' ⟨rfl, rfl⟩)
          | (go_at_call 69; refine (row_end s.fr a s.b.length cap _ hf0 (by omega) (by omega)).mono ?_; rintro e w' ⟨rfl, hk⟩; have f3' := (h.keptNo hk).box.frozen 3; have c3' := (h.keptNo hk).box.c3))
        go_ret
        have e : s.cut n = (0, { s with base := n }) := PD.cut_in HON.out ⟨hi, hi2⟩
        rw [e]
        have hok := h.ok.cut n
        rw [e] at hok
        have hkp : Kept (· = p) w _ := (Kept.no hk (S := (· = p))).setCell (a := ⟨p, 3, none⟩) (fun _ => rfl) (.int .i64 n)
        exact h.putCode (s' := { s with base := n }) (Blk.set (h.keptNo hk).box 3 _) hkp hok rfl 0
      · go_enter Try.func36, Try.ntmps36
        go_wp2_with (first
          | (go_at_call 68; refine (d_ready h.box h.ok.room1).mono ?_; rw [HON.out]; rintro e w' ⟨rfl, rfl⟩)
          | (go_at_call 69; refine (row_end s.fr a s.b.length cap _ hf0 (by omega) (by omega)).mono ?_; rintro e w' ⟨rfl, hk⟩))
        go_ret
        have e : s.cut n = (1, s) := PD.cut_out HON.out (fun h => absurd h.2 (Int.not_le.2 hi2))
        rw [e]; exact h.sameCode hk 1
    · go_enter Try.func36, Try.ntmps36
      go_wp2_with (go_at_call 68; refine (d_ready h.box h.ok.room1).mono ?_; rw [HON.out]; rintro e w' ⟨rfl, rfl⟩)
      go_ret
      have e : s.cut n = (1, s) := PD.cut_out HON.out (fun h => absurd h.1 (Int.not_le.2 hi))
      rw [e]; exact h.sameCode (Kept.refl _ _) 1
end
end Go.Proofs.Ytdolddgmemlofaa
