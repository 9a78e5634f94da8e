/- A network that nobody made: nil, or the zero value. Printed by wip/tools/gen_netbad.py. -/
import Derived.Test.YtdolddgmemlofaaNetH
namespace Go.Proofs.Ytdolddgmemlofaa
open Go.RowKit Go.PM

def Bad (w : World) (v : Option Addr) : Prop := v = none ∨ ∃ g, v = some ⟨g, 0, none⟩ ∧ NetB w g 0 none 0 0 0

theorem Bad.keptNo {w w' : World} {v : Option Addr} (h : Bad w v) (k : Kept No w w') : Bad w' v := h.imp id fun ⟨g, e, hb⟩ => ⟨g, e, Blk.kept hb k id⟩

section
variable {w : World} {v : Option Addr}

theorem bad_ok (h : Bad w v) : Calls Try.prog 56 #[.pointer v] w fun e w' => e = .returned (.bool false) ∧ w = w' := by
  rcases h with rfl | ⟨g, rfl, hb⟩
  · exact ok_nil w
  · exact ok_zero hb

def BadCode (w : World) (e : Ending) (w' : World) : Prop := e = .returned (.int .i64 2) ∧ Kept No w w'

theorem bad_len (h : Bad w v) : Calls Try.prog 20 #[.pointer v] w fun e w' => e = .returned (.int .i64 0) ∧ w = w' := by
  go_enter Try.func20, Try.ntmps20
  go_wp2_with (go_at_call 56; go_must (refine (bad_ok h).mono ?_; rintro e w' ⟨rfl, rfl⟩))
  go_ret
  exact ⟨rfl, rfl⟩

theorem bad_lost (h : Bad w v) : Calls Try.prog 24 #[.pointer v] w fun e w' => e = .returned (.int .i64 0) ∧ w = w' := by
  go_enter Try.func24, Try.ntmps24
  go_wp2_with (go_at_call 56; go_must (refine (bad_ok h).mono ?_; rintro e w' ⟨rfl, rfl⟩))
  go_ret
  exact ⟨rfl, rfl⟩

set_option maxRecDepth 100000 in
set_option maxHeartbeats 400000 in
theorem bad_to (h : Bad w v) (n : Int) : Calls Try.prog 26 #[.pointer v, .int .u8 n] w fun e w' => e = .returned (.slice none 0 0) ∧ w = w' := by
  go_enter Try.func26, Try.ntmps26
  go_wp2_with (go_at_call 20; go_must (refine (bad_len h).mono ?_; rintro e w' ⟨rfl, rfl⟩))
  go_loopw [5, 9] (fun v i wr => v = .slice none 0 0 ∧ i = .int .i64 0 ∧ wr = w) (fun _ _ _ => 0)
  case atStart => exact ⟨rfl, rfl, rfl⟩
  case round =>
    obtain ⟨rfl, rfl, rfl⟩ := hrel
    go_wp2
    go_ret
    exact ⟨rfl, rfl⟩

set_option maxRecDepth 100000 in
set_option maxHeartbeats 400000 in
theorem bad_at (h : Bad w v) (i : Int) : Calls Try.prog 17 #[.pointer v, .int .i64 i] w (NonePost w 2) := by
  go_enter Try.func17, Try.ntmps17
  go_wp2_with (go_at_call 56; go_must (refine (bad_ok (h.keptNo ((Kept.refl No w).alloc _))).mono ?_; rintro e w' ⟨rfl, rfl⟩))
  refine bodyPost_ret (v := .tuple #[.agg #[.int .u8 0, .int .u8 0, .slice none 0 0], .int .i64 2]) (by simp [results, Try.results17, go_sem]) rfl
      ⟨rfl, (Kept.refl No w).alloc _⟩

set_option maxRecDepth 100000 in
set_option maxHeartbeats 400000 in
theorem bad_take (h : Bad w v) (i : Int) : Calls Try.prog 30 #[.pointer v, .int .i64 i] w (NonePost w 2) := by
  go_enter Try.func30, Try.ntmps30
  go_wp2_with (go_at_call 17; go_must (refine (bad_at (h.keptNo ((Kept.refl No w).alloc _)) i).mono ?_))
  rintro e w1 ⟨rfl, hk⟩
  have hbx : Blk w1 w.heap.size 36 [.int .u8 0, .int .u8 0, .slice none 0 0] := (Blk.new w _ _).kept hk id
  have hk1 : Kept No w w1 := ((Kept.refl No w).alloc _).transNo hk
  have x0 := hbx.cell 0
  have x1 := hbx.cell 1
  have x2 := hbx.cell 2
  have y0 := hbx.frozen 0
  have y1 := hbx.frozen 1
  have y2 := hbx.frozen 2
  have hlt := hbx.lt
  go_wp2
  have hw : w.heap.size < w.heap.size → No w.heap.size := fun h => absurd h (Nat.lt_irrefl _)
  refine bodyPost_ret (v := .tuple #[.agg #[.int .u8 0, .int .u8 0, .slice none 0 0], .int .i64 2]) (by simp [results, Try.results30, go_sem, x0, x1, x2, hlt]) rfl
      ⟨rfl, ?_⟩
  exact (((hk1.setCell (a := ⟨w.heap.size, 0, none⟩) hw (.int .u8 0)).setCell (a := ⟨w.heap.size, 1, none⟩) hw (.int .u8 0)).setCell (a := ⟨w.heap.size, 2, none⟩) hw (.slice none 0 0)).alloc _

set_option maxRecDepth 100000 in
set_option maxHeartbeats 400000 in
theorem bad_send (h : Bad w v) (f t : Int) (a : Option Addr) (n c : Nat) : Calls Try.prog 19 #[.pointer v, .agg #[.int .u8 f, .int .u8 t, .slice a n c]] w (BadCode w) := by
  go_enter Try.func19, Try.ntmps19
  go_wp2_with (go_at_call 56; go_must (refine (bad_ok (h.keptNo ((Kept.refl No w).alloc _))).mono ?_; rintro e w' ⟨rfl, rfl⟩))
  go_ret
  exact ⟨rfl, (Kept.refl No w).alloc _⟩

set_option maxRecDepth 100000 in
set_option maxHeartbeats 400000 in
theorem bad_drop (h : Bad w v) (i : Int) : Calls Try.prog 58 #[.pointer v, .int .i64 i] w (BadCode w) := by
  go_enter Try.func58, Try.ntmps58
  go_wp2_with (go_at_call 30; go_must (refine (bad_take h i).mono ?_))
  rintro e w1 ⟨rfl, hk⟩
  go_wp2
  go_ret
  exact ⟨rfl, hk.alloc _⟩

set_option maxRecDepth 100000 in
set_option maxHeartbeats 400000 in
theorem bad_twice (h : Bad w v) (i : Int) : Calls Try.prog 29 #[.pointer v, .int .i64 i] w (BadCode w) := by
  go_enter Try.func29, Try.ntmps29
  go_wp2_with (go_at_call 17; go_must (refine (bad_at h i).mono ?_))
  rintro e w1 ⟨rfl, hk⟩
  go_wp2
  go_ret
  exact ⟨rfl, hk.alloc _⟩

set_option maxRecDepth 100000 in
set_option maxHeartbeats 400000 in
theorem bad_late (h : Bad w v) (i : Int) : Calls Try.prog 55 #[.pointer v, .int .i64 i] w (BadCode w) := by
  go_enter Try.func55, Try.ntmps55
  go_wp2_with (go_at_call 30; go_must (refine (bad_take h i).mono ?_))
  rintro e w1 ⟨rfl, hk⟩
  go_wp2
  go_ret
  exact ⟨rfl, hk.alloc _⟩

def BadGot (w : World) (e : Ending) (w' : World) : Prop := e = .returned (.tuple #[.agg #[.int .u8 0, .int .u8 0, .slice none 0 0], .int .i64 2]) ∧ Kept No w w'

set_option maxRecDepth 100000 in
set_option maxHeartbeats 400000 in
theorem bad_does_take (h : Bad w v) (a : PAct) (ad : Option Addr) (c : Nat) (hk0 : 0 ≤ a.kind) (hk : a.kind % 6 = 1) :
    Calls Try.prog 18 #[.pointer v, .agg #[.int .u8 a.kind, .int .u8 a.f, .int .u8 a.t, .int .i64 a.i, .slice ad a.b.length c]] w (BadGot w) := by
  have hwb := (((Kept.refl No w).alloc (.cells #[.int .u8 a.kind, .int .u8 a.f, .int .u8 a.t, .int .i64 a.i, .slice ad a.b.length c] 34)).alloc (.cells #[.int .u8 0, .int .u8 0, .slice none 0 0] 39)).alloc (.cells #[.int .u8 0, .int .u8 0, .slice none 0 0] 36)
  go_enter Try.func18, Try.ntmps18
  go_wp2_with (go_at_call 30; go_must (refine (bad_take (h.keptNo hwb) a.i).mono ?_))
  rintro e w1 ⟨rfl, hg⟩
  have b4 := (Blk.alloc (Blk.new' (w := (w.alloc (.cells #[.int .u8 a.kind, .int .u8 a.f, .int .u8 a.t, .int .i64 a.i, .slice ad a.b.length c] 34))) (g := w.heap.size + 1) (by simp) 39 [.int .u8 0, .int .u8 0, .slice none 0 0]) (.cells #[.int .u8 0, .int .u8 0, .slice none 0 0] 36)).kept hg id
  have b6 := (Blk.new' (w := ((w.alloc (.cells #[.int .u8 a.kind, .int .u8 a.f, .int .u8 a.t, .int .i64 a.i, .slice ad a.b.length c] 34)).alloc (.cells #[.int .u8 0, .int .u8 0, .slice none 0 0] 39))) (g := w.heap.size + 1 + 1) (by simp) 36 [.int .u8 0, .int .u8 0, .slice none 0 0]).kept hg id
  have hk1 := hwb.transNo hg
  have x0 := b6.cell 0
  have x1 := b6.cell 1
  have x2 := b6.cell 2
  have u0 := b6.frozen 0
  have u1 := b6.frozen 1
  have u2 := b6.frozen 2
  go_wp2_with (go_at_call 28; go_must (refine (ours_calls _ _ _ _ _ _).mono ?_))
  rintro e w2 ⟨rfl, hk2⟩
  have hne : w.heap.size + 1 ≠ w.heap.size + 1 + 1 := by omega
  have b4' := (((b4.setOther (a := ⟨w.heap.size + 1 + 1, 0, none⟩) hne _).setOther (a := ⟨w.heap.size + 1 + 1, 1, none⟩) hne _).setOther (a := ⟨w.heap.size + 1 + 1, 2, none⟩) hne _).kept hk2 id
  have y0 := b4'.cell 0
  have y1 := b4'.cell 1
  have y2 := b4'.cell 2
  have z0 := b4'.frozen 0
  have z1 := b4'.frozen 1
  have z2 := b4'.frozen 2
  clear x0 x1 x2
  go_wp2
  have hw1 : w.heap.size + 1 < w.heap.size → No (w.heap.size + 1) := fun h => by omega
  have hw2 : w.heap.size + 1 + 1 < w.heap.size → No (w.heap.size + 1 + 1) := fun h => by omega
  refine bodyPost_ret (v := .tuple #[.agg #[.int .u8 0, .int .u8 0, .slice none 0 0], .int .i64 2]) (by simp [results, Try.results18, go_sem, y0, y1, y2]) rfl ⟨rfl, ?_⟩
  exact ((((((hk1.setCell (a := ⟨w.heap.size + 1 + 1, 0, none⟩) hw2 _).setCell (a := ⟨w.heap.size + 1 + 1, 1, none⟩) hw2 _).setCell (a := ⟨w.heap.size + 1 + 1, 2, none⟩) hw2 _).transNo hk2).setCell (a := ⟨w.heap.size + 1, 0, none⟩) hw1 _).setCell (a := ⟨w.heap.size + 1, 1, none⟩) hw1 _).setCell (a := ⟨w.heap.size + 1, 2, none⟩) hw1 _

set_option maxRecDepth 100000 in
set_option maxHeartbeats 400000 in
theorem bad_does_at (h : Bad w v) (a : PAct) (ad : Option Addr) (c : Nat) (hk0 : 0 ≤ a.kind) (hk : a.kind % 6 = 2) :
    Calls Try.prog 18 #[.pointer v, .agg #[.int .u8 a.kind, .int .u8 a.f, .int .u8 a.t, .int .i64 a.i, .slice ad a.b.length c]] w (BadGot w) := by
  have hwb := (((Kept.refl No w).alloc (.cells #[.int .u8 a.kind, .int .u8 a.f, .int .u8 a.t, .int .i64 a.i, .slice ad a.b.length c] 34)).alloc (.cells #[.int .u8 0, .int .u8 0, .slice none 0 0] 39)).alloc (.cells #[.int .u8 0, .int .u8 0, .slice none 0 0] 36)
  go_enter Try.func18, Try.ntmps18
  go_wp2_with (go_at_call 17; go_must (refine (bad_at (h.keptNo hwb) a.i).mono ?_))
  rintro e w1 ⟨rfl, hg⟩
  have b4 := (Blk.alloc (Blk.new' (w := (w.alloc (.cells #[.int .u8 a.kind, .int .u8 a.f, .int .u8 a.t, .int .i64 a.i, .slice ad a.b.length c] 34))) (g := w.heap.size + 1) (by simp) 39 [.int .u8 0, .int .u8 0, .slice none 0 0]) (.cells #[.int .u8 0, .int .u8 0, .slice none 0 0] 36)).kept hg id
  have b6 := (Blk.new' (w := ((w.alloc (.cells #[.int .u8 a.kind, .int .u8 a.f, .int .u8 a.t, .int .i64 a.i, .slice ad a.b.length c] 34)).alloc (.cells #[.int .u8 0, .int .u8 0, .slice none 0 0] 39))) (g := w.heap.size + 1 + 1) (by simp) 36 [.int .u8 0, .int .u8 0, .slice none 0 0]).kept hg id
  have hk1 := hwb.transNo hg
  have x0 := b6.cell 0
  have x1 := b6.cell 1
  have x2 := b6.cell 2
  have u0 := b6.frozen 0
  have u1 := b6.frozen 1
  have u2 := b6.frozen 2
  go_wp2_with (go_at_call 28; go_must (refine (ours_calls _ _ _ _ _ _).mono ?_))
  rintro e w2 ⟨rfl, hk2⟩
  have hne : w.heap.size + 1 ≠ w.heap.size + 1 + 1 := by omega
  have b4' := (((b4.setOther (a := ⟨w.heap.size + 1 + 1, 0, none⟩) hne _).setOther (a := ⟨w.heap.size + 1 + 1, 1, none⟩) hne _).setOther (a := ⟨w.heap.size + 1 + 1, 2, none⟩) hne _).kept hk2 id
  have y0 := b4'.cell 0
  have y1 := b4'.cell 1
  have y2 := b4'.cell 2
  have z0 := b4'.frozen 0
  have z1 := b4'.frozen 1
  have z2 := b4'.frozen 2
  clear x0 x1 x2
  go_wp2
  have hw1 : w.heap.size + 1 < w.heap.size → No (w.heap.size + 1) := fun h => by omega
  have hw2 : w.heap.size + 1 + 1 < w.heap.size → No (w.heap.size + 1 + 1) := fun h => by omega
  refine bodyPost_ret (v := .tuple #[.agg #[.int .u8 0, .int .u8 0, .slice none 0 0], .int .i64 2]) (by simp [results, Try.results18, go_sem, y0, y1, y2]) rfl ⟨rfl, ?_⟩
  exact ((((((hk1.setCell (a := ⟨w.heap.size + 1 + 1, 0, none⟩) hw2 _).setCell (a := ⟨w.heap.size + 1 + 1, 1, none⟩) hw2 _).setCell (a := ⟨w.heap.size + 1 + 1, 2, none⟩) hw2 _).transNo hk2).setCell (a := ⟨w.heap.size + 1, 0, none⟩) hw1 _).setCell (a := ⟨w.heap.size + 1, 1, none⟩) hw1 _).setCell (a := ⟨w.heap.size + 1, 2, none⟩) hw1 _

set_option maxRecDepth 100000 in
set_option maxHeartbeats 400000 in
theorem bad_does_drop (h : Bad w v) (a : PAct) (ad : Option Addr) (c : Nat) (hk0 : 0 ≤ a.kind) (hk : a.kind % 6 = 3) :
    Calls Try.prog 18 #[.pointer v, .agg #[.int .u8 a.kind, .int .u8 a.f, .int .u8 a.t, .int .i64 a.i, .slice ad a.b.length c]] w (BadGot w) := by
  have hwb := (((Kept.refl No w).alloc (.cells #[.int .u8 a.kind, .int .u8 a.f, .int .u8 a.t, .int .i64 a.i, .slice ad a.b.length c] 34)).alloc (.cells #[.int .u8 0, .int .u8 0, .slice none 0 0] 39)).alloc (.cells #[.int .u8 0, .int .u8 0, .slice none 0 0] 36)
  go_enter Try.func18, Try.ntmps18
  go_wp2_with (go_at_call 58; go_must (refine (bad_drop (h.keptNo hwb) a.i).mono ?_))
  rintro e w1 ⟨rfl, hg⟩
  have b4 := (Blk.alloc (Blk.new' (w := (w.alloc (.cells #[.int .u8 a.kind, .int .u8 a.f, .int .u8 a.t, .int .i64 a.i, .slice ad a.b.length c] 34))) (g := w.heap.size + 1) (by simp) 39 [.int .u8 0, .int .u8 0, .slice none 0 0]) (.cells #[.int .u8 0, .int .u8 0, .slice none 0 0] 36)).kept hg id
  have b6 := (Blk.new' (w := ((w.alloc (.cells #[.int .u8 a.kind, .int .u8 a.f, .int .u8 a.t, .int .i64 a.i, .slice ad a.b.length c] 34)).alloc (.cells #[.int .u8 0, .int .u8 0, .slice none 0 0] 39))) (g := w.heap.size + 1 + 1) (by simp) 36 [.int .u8 0, .int .u8 0, .slice none 0 0]).kept hg id
  have hk1 := hwb.transNo hg
  have x0 := b6.cell 0
  have x1 := b6.cell 1
  have x2 := b6.cell 2
  go_wp2_with (go_at_call 28; go_must (refine (ours_calls _ _ _ _ _ _).mono ?_))
  rintro e w2 ⟨rfl, hk2⟩
  have b4' := b4.kept hk2 id
  have y0 := b4'.cell 0
  have y1 := b4'.cell 1
  have y2 := b4'.cell 2
  have z0 := b4'.frozen 0
  have z1 := b4'.frozen 1
  have z2 := b4'.frozen 2
  clear x0 x1 x2
  go_wp2
  have hw1 : w.heap.size + 1 < w.heap.size → No (w.heap.size + 1) := fun h => by omega
  have hw2 : w.heap.size + 1 + 1 < w.heap.size → No (w.heap.size + 1 + 1) := fun h => by omega
  refine bodyPost_ret (v := .tuple #[.agg #[.int .u8 0, .int .u8 0, .slice none 0 0], .int .i64 2]) (by simp [results, Try.results18, go_sem, y0, y1, y2]) rfl ⟨rfl, ?_⟩
  exact (((hk1.transNo hk2).setCell (a := ⟨w.heap.size + 1, 0, none⟩) hw1 _).setCell (a := ⟨w.heap.size + 1, 1, none⟩) hw1 _).setCell (a := ⟨w.heap.size + 1, 2, none⟩) hw1 _

set_option maxRecDepth 100000 in
set_option maxHeartbeats 400000 in
theorem bad_does_twice (h : Bad w v) (a : PAct) (ad : Option Addr) (c : Nat) (hk0 : 0 ≤ a.kind) (hk : a.kind % 6 = 4) :
    Calls Try.prog 18 #[.pointer v, .agg #[.int .u8 a.kind, .int .u8 a.f, .int .u8 a.t, .int .i64 a.i, .slice ad a.b.length c]] w (BadGot w) := by
  have hwb := (((Kept.refl No w).alloc (.cells #[.int .u8 a.kind, .int .u8 a.f, .int .u8 a.t, .int .i64 a.i, .slice ad a.b.length c] 34)).alloc (.cells #[.int .u8 0, .int .u8 0, .slice none 0 0] 39)).alloc (.cells #[.int .u8 0, .int .u8 0, .slice none 0 0] 36)
  go_enter Try.func18, Try.ntmps18
  go_wp2_with (go_at_call 29; go_must (refine (bad_twice (h.keptNo hwb) a.i).mono ?_))
  rintro e w1 ⟨rfl, hg⟩
  have b4 := (Blk.alloc (Blk.new' (w := (w.alloc (.cells #[.int .u8 a.kind, .int .u8 a.f, .int .u8 a.t, .int .i64 a.i, .slice ad a.b.length c] 34))) (g := w.heap.size + 1) (by simp) 39 [.int .u8 0, .int .u8 0, .slice none 0 0]) (.cells #[.int .u8 0, .int .u8 0, .slice none 0 0] 36)).kept hg id
  have b6 := (Blk.new' (w := ((w.alloc (.cells #[.int .u8 a.kind, .int .u8 a.f, .int .u8 a.t, .int .i64 a.i, .slice ad a.b.length c] 34)).alloc (.cells #[.int .u8 0, .int .u8 0, .slice none 0 0] 39))) (g := w.heap.size + 1 + 1) (by simp) 36 [.int .u8 0, .int .u8 0, .slice none 0 0]).kept hg id
  have hk1 := hwb.transNo hg
  have x0 := b6.cell 0
  have x1 := b6.cell 1
  have x2 := b6.cell 2
  go_wp2_with (go_at_call 28; go_must (refine (ours_calls _ _ _ _ _ _).mono ?_))
  rintro e w2 ⟨rfl, hk2⟩
  have b4' := b4.kept hk2 id
  have y0 := b4'.cell 0
  have y1 := b4'.cell 1
  have y2 := b4'.cell 2
  have z0 := b4'.frozen 0
  have z1 := b4'.frozen 1
  have z2 := b4'.frozen 2
  clear x0 x1 x2
  go_wp2
  have hw1 : w.heap.size + 1 < w.heap.size → No (w.heap.size + 1) := fun h => by omega
  have hw2 : w.heap.size + 1 + 1 < w.heap.size → No (w.heap.size + 1 + 1) := fun h => by omega
  refine bodyPost_ret (v := .tuple #[.agg #[.int .u8 0, .int .u8 0, .slice none 0 0], .int .i64 2]) (by simp [results, Try.results18, go_sem, y0, y1, y2]) rfl ⟨rfl, ?_⟩
  exact (((hk1.transNo hk2).setCell (a := ⟨w.heap.size + 1, 0, none⟩) hw1 _).setCell (a := ⟨w.heap.size + 1, 1, none⟩) hw1 _).setCell (a := ⟨w.heap.size + 1, 2, none⟩) hw1 _

set_option maxRecDepth 100000 in
set_option maxHeartbeats 400000 in
theorem bad_does_late (h : Bad w v) (a : PAct) (ad : Option Addr) (c : Nat) (hk0 : 0 ≤ a.kind) (hk : a.kind % 6 = 5) :
    Calls Try.prog 18 #[.pointer v, .agg #[.int .u8 a.kind, .int .u8 a.f, .int .u8 a.t, .int .i64 a.i, .slice ad a.b.length c]] w (BadGot w) := by
  have hwb := (((Kept.refl No w).alloc (.cells #[.int .u8 a.kind, .int .u8 a.f, .int .u8 a.t, .int .i64 a.i, .slice ad a.b.length c] 34)).alloc (.cells #[.int .u8 0, .int .u8 0, .slice none 0 0] 39)).alloc (.cells #[.int .u8 0, .int .u8 0, .slice none 0 0] 36)
  go_enter Try.func18, Try.ntmps18
  go_wp2_with (go_at_call 55; go_must (refine (bad_late (h.keptNo hwb) a.i).mono ?_))
  rintro e w1 ⟨rfl, hg⟩
  have b4 := (Blk.alloc (Blk.new' (w := (w.alloc (.cells #[.int .u8 a.kind, .int .u8 a.f, .int .u8 a.t, .int .i64 a.i, .slice ad a.b.length c] 34))) (g := w.heap.size + 1) (by simp) 39 [.int .u8 0, .int .u8 0, .slice none 0 0]) (.cells #[.int .u8 0, .int .u8 0, .slice none 0 0] 36)).kept hg id
  have b6 := (Blk.new' (w := ((w.alloc (.cells #[.int .u8 a.kind, .int .u8 a.f, .int .u8 a.t, .int .i64 a.i, .slice ad a.b.length c] 34)).alloc (.cells #[.int .u8 0, .int .u8 0, .slice none 0 0] 39))) (g := w.heap.size + 1 + 1) (by simp) 36 [.int .u8 0, .int .u8 0, .slice none 0 0]).kept hg id
  have hk1 := hwb.transNo hg
  have x0 := b6.cell 0
  have x1 := b6.cell 1
  have x2 := b6.cell 2
  go_wp2_with (go_at_call 28; go_must (refine (ours_calls _ _ _ _ _ _).mono ?_))
  rintro e w2 ⟨rfl, hk2⟩
  have b4' := b4.kept hk2 id
  have y0 := b4'.cell 0
  have y1 := b4'.cell 1
  have y2 := b4'.cell 2
  have z0 := b4'.frozen 0
  have z1 := b4'.frozen 1
  have z2 := b4'.frozen 2
  clear x0 x1 x2
  go_wp2
  have hw1 : w.heap.size + 1 < w.heap.size → No (w.heap.size + 1) := fun h => by omega
  have hw2 : w.heap.size + 1 + 1 < w.heap.size → No (w.heap.size + 1 + 1) := fun h => by omega
  refine bodyPost_ret (v := .tuple #[.agg #[.int .u8 0, .int .u8 0, .slice none 0 0], .int .i64 2]) (by simp [results, Try.results18, go_sem, y0, y1, y2]) rfl ⟨rfl, ?_⟩
  exact (((hk1.transNo hk2).setCell (a := ⟨w.heap.size + 1, 0, none⟩) hw1 _).setCell (a := ⟨w.heap.size + 1, 1, none⟩) hw1 _).setCell (a := ⟨w.heap.size + 1, 2, none⟩) hw1 _

set_option maxRecDepth 100000 in
set_option maxHeartbeats 400000 in
theorem bad_does_send (h : Bad w v) (a : PAct) (ad : Option Addr) (c : Nat) (hk0 : 0 ≤ a.kind) (hk : a.kind % 6 = 0) :
    Calls Try.prog 18 #[.pointer v, .agg #[.int .u8 a.kind, .int .u8 a.f, .int .u8 a.t, .int .i64 a.i, .slice ad a.b.length c]] w (BadGot w) := by
  have hwb := (((Kept.refl No w).alloc (.cells #[.int .u8 a.kind, .int .u8 a.f, .int .u8 a.t, .int .i64 a.i, .slice ad a.b.length c] 34)).alloc (.cells #[.int .u8 0, .int .u8 0, .slice none 0 0] 39)).alloc (.cells #[.int .u8 0, .int .u8 0, .slice none 0 0] 36)
  go_enter Try.func18, Try.ntmps18
  go_wp2_with (go_at_call 19; go_must (refine (bad_send (h.keptNo hwb) a.f a.t ad a.b.length c).mono ?_))
  rintro e w1 ⟨rfl, hg⟩
  have b4 := (Blk.alloc (Blk.new' (w := (w.alloc (.cells #[.int .u8 a.kind, .int .u8 a.f, .int .u8 a.t, .int .i64 a.i, .slice ad a.b.length c] 34))) (g := w.heap.size + 1) (by simp) 39 [.int .u8 0, .int .u8 0, .slice none 0 0]) (.cells #[.int .u8 0, .int .u8 0, .slice none 0 0] 36)).kept hg id
  have b6 := (Blk.new' (w := ((w.alloc (.cells #[.int .u8 a.kind, .int .u8 a.f, .int .u8 a.t, .int .i64 a.i, .slice ad a.b.length c] 34)).alloc (.cells #[.int .u8 0, .int .u8 0, .slice none 0 0] 39))) (g := w.heap.size + 1 + 1) (by simp) 36 [.int .u8 0, .int .u8 0, .slice none 0 0]).kept hg id
  have hk1 := hwb.transNo hg
  have x0 := b6.cell 0
  have x1 := b6.cell 1
  have x2 := b6.cell 2
  go_wp2_with (go_at_call 28; go_must (refine (ours_calls _ _ _ _ _ _).mono ?_))
  rintro e w2 ⟨rfl, hk2⟩
  have b4' := b4.kept hk2 id
  have y0 := b4'.cell 0
  have y1 := b4'.cell 1
  have y2 := b4'.cell 2
  have z0 := b4'.frozen 0
  have z1 := b4'.frozen 1
  have z2 := b4'.frozen 2
  clear x0 x1 x2
  go_wp2
  have hw1 : w.heap.size + 1 < w.heap.size → No (w.heap.size + 1) := fun h => by omega
  have hw2 : w.heap.size + 1 + 1 < w.heap.size → No (w.heap.size + 1 + 1) := fun h => by omega
  refine bodyPost_ret (v := .tuple #[.agg #[.int .u8 0, .int .u8 0, .slice none 0 0], .int .i64 2]) (by simp [results, Try.results18, go_sem, y0, y1, y2]) rfl ⟨rfl, ?_⟩
  exact (((hk1.transNo hk2).setCell (a := ⟨w.heap.size + 1, 0, none⟩) hw1 _).setCell (a := ⟨w.heap.size + 1, 1, none⟩) hw1 _).setCell (a := ⟨w.heap.size + 1, 2, none⟩) hw1 _

theorem bad_does (h : Bad w v) (a : PAct) (ad : Option Addr) (c : Nat) (hk0 : 0 ≤ a.kind) :
    Calls Try.prog 18 #[.pointer v, .agg #[.int .u8 a.kind, .int .u8 a.f, .int .u8 a.t, .int .i64 a.i, .slice ad a.b.length c]] w (BadGot w) := by
  have h6 : a.kind % 6 = 0 ∨ a.kind % 6 = 1 ∨ a.kind % 6 = 2 ∨ a.kind % 6 = 3 ∨ a.kind % 6 = 4 ∨ a.kind % 6 = 5 := by omega
  rcases h6 with h' | h' | h' | h' | h' | h'
  · exact bad_does_send h a ad c hk0 h'
  · exact bad_does_take h a ad c hk0 h'
  · exact bad_does_at h a ad c hk0 h'
  · exact bad_does_drop h a ad c hk0 h'
  · exact bad_does_twice h a ad c hk0 h'
  · exact bad_does_late h a ad c hk0 h'
end

/- Two wires read the same when their bytes do. -/
set_option maxRecDepth 100000 in
set_option maxHeartbeats 400000 in
theorem wire_same (x y : PW) (a1 a2 : Option Addr) (c1 c2 : Nat) (w : World) (h1 : Rd w a1 (bcells x.2.2)) (h2 : Rd w a2 (bcells y.2.2)) (hxy : x = y) :
    Calls Try.prog 23 #[.agg #[.int .u8 x.1, .int .u8 x.2.1, .slice a1 x.2.2.length c1], .agg #[.int .u8 y.1, .int .u8 y.2.1, .slice a2 y.2.2.length c2]] w fun e w' => e = .returned (.bool true) ∧ Kept No w w' := by
  subst hxy
  have hk := ((Kept.refl No w).alloc (.cells #[.int .u8 x.1, .int .u8 x.2.1, .slice a1 x.2.2.length c1] 39)).alloc (.cells #[.int .u8 x.1, .int .u8 x.2.1, .slice a2 x.2.2.length c2] 39)
  have r1 := h1.keptNo hk
  have r2 := h2.keptNo hk
  go_enter Try.func23, Try.ntmps23
  go_wp2_with (first
    | (with_reducible refine wpList_conv_bytes rfl _ _ (.tmp 19) rfl _ Try.u_bytes2 Try.u_byte Try.u_string _ _ x.2.2 rfl r1 ?_)
    | (with_reducible refine wpList_conv_bytes rfl _ _ (.tmp 22) rfl _ Try.u_bytes2 Try.u_byte Try.u_string _ _ x.2.2 rfl r2 ?_))
  go_ret
  exact ⟨rfl, hk⟩
end Go.Proofs.Ytdolddgmemlofaa
